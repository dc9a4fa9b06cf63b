/- Functions of the program, as plain data. -/
import Derived.Test.YtlgalcekkffhnaaP0
set_option linter.unusedVariables false
set_option linter.unusedSimpArgs false
namespace Go.Proofs.Ytlgalcekkffhnaa
open Go.RowKit

def p21_l1 (n : Nat) (x0 : Sl (Sl (Int))) : Nat → (Int) → (List (Int)) → Option ((List (Int)))
 | 0, _, _ => .none
 | m + 1, c_2, c_4 => if (decide (c_2 < (lenI x0))) then ((idx x0.xs c_2).bind fun y_19 => (appI c_4 ([lenI y_19])).bind fun l_30 => (ckI .i64 (c_2 + 1)).bind fun x_35 => p21_l1 n x0 m x_35 l_30) else some c_4
def p21 (n : Nat) (x0 : Sl (Sl (Int))) : Option ((Sl (Int))) :=
 (p21_l1 n x0 n 0 []).bind fun (y_12 : (List (Int))) =>
 some (⟨y_12, .none⟩ : Sl (Int))
set_option maxHeartbeats 4000000 in
set_option maxRecDepth 100000 in
/-- plugboard/networks.sizes -/
theorem c21 (K : Nat → Prop) (n : Nat) (w : World) (x0 : Sl (Sl (Int))) (v0 : Value) (R0 : RepV (.sl (.sl (.int .u8))) w K v0 x0) {r : (Sl (Int))} (h : p21 n x0 = some r) :
  Calls Try.prog 21 #[v0] w (fun e_ w_ => ∃ v0_ : Value, e_ = .returned v0_ ∧ Ow (.int .i64) 3 w_ w.heap.size (Kx K w.heap.size [v0_.ownBlock]) v0_ r.xs r.cap ∧ Below w.heap.size w w_) := by
 refine enter (args := [v0]) Try.func21 rfl 19 rfl rfl fun a S => ?_
 have W := Wd.start w
 replace R0 := R0.arg
 unfold p21 at h
 replace S : St 19 a [(0, v0)] := S
 refine wp_seq ?_
 refine wp_region_lit ?_
 refine wl_pure (l' := [(2, .slice .none 0 0), (0, v0)]) S tys tys_ok 1 (by kernel_rfl) ?_
 clear S; intro a S
 refine wpList_nil ?_
 refine then_n ?_
 replace S := S.sub (l' := [(0, v0)]) (by exact ⟨rfl, trivial⟩)
 refine wp_seq ?_
 refine wp_region_lit ?_
 refine wl_pure (l' := [(3, .slice .none 0 0), (0, v0)]) S tys tys_ok 1 (by kernel_rfl) ?_
 clear S; intro a S
 refine wpList_nil ?_
 refine then_n ?_
 refine wp_seq ?_
 refine wp_seq ?_
 refine wp_region_lit ?_
 refine wl_pure (l' := [(6, v0), (3, .slice .none 0 0), (0, v0)]) S tys tys_ok 1 (by kernel_rfl) ?_
 clear S; intro a S
 refine w_go S rfl (op_len (K := _) S rfl ty23 rfl rfl rfl R0 ?_)
 clear S; intro a G_1 S
 refine wl_pure (l' := [(8, .int .i64 0), (7, .int .i64 (lenI x0)), (6, v0), (3, .slice .none 0 0), (0, v0)]) S tys tys_ok 1 (by kernel_rfl) ?_
 clear S; intro a S
 refine wpList_nil ?_
 refine then_n ?_
 replace S := S.sub (l' := [(8, .int .i64 0), (7, .int .i64 (lenI x0)), (6, v0), (3, .slice .none 0 0)]) (by exact ⟨rfl, rfl, rfl, rfl, trivial⟩)
 obtain ⟨y_12, ey_12, h⟩ := bindS h
 refine wp_cut_ (fun a_ w_ => ∃ (v_13 : Value), St 19 a_ [(3, v_13)] ∧ Wd w w_ [v_13.ownBlock] ∧ Ow (.int .i64) 3 w_ w.heap.size (Kx K w.heap.size [v_13.ownBlock]) v_13 y_12 .none) ?_ ?_
 ·refine wp_block ?_
  refine wp_loop_n (fun m_ a_ w_ => ∃ (c_2 : Int) (c_4 : List (Int)) , ∃ (v_5 : Value), St 19 a_ [(8, .int .i64 c_2), (7, .int .i64 (lenI x0)), (6, v0), (3, v_5)] ∧ Wd w w_ [v_5.ownBlock] ∧ InR .i64 c_2 ∧ RepV (.sl (.sl (.int .u8))) w_ (Kx K w.heap.size [v_5.ownBlock]) v0 x0 ∧ Ow (.int .i64) 3 w_ w.heap.size (Kx K w.heap.size [v_5.ownBlock]) v_5 c_4 .none ∧ p21_l1 n x0 m_ c_2 c_4 = some y_12) n ?_ ?_
  ·skip
   replace R0 := R0.more
   replace W := W.more
   have O_17 : Ow (.int .i64) 3 w w.heap.size (Kx K w.heap.size [.none]) (.slice .none 0 0) ([] : List (Int)) (some 0) := Ow.nil
   exact ⟨0, [], ⟨(.slice .none 0 0), S.sub (by exact ⟨rfl, rfl, rfl, rfl, trivial⟩), W, (by decide), R0, O_17.forget, ey_12⟩⟩
  ·clear S W; rintro m_15 a w_18 ⟨c_2, c_4, v_5, S, W, G_3, R0, O_6, hl_16⟩
   cases m_15 with
   | zero => exact absurd hl_16 (by simp [p21_l1])
   | succ m_15 =>
    refine ⟨m_15, rfl, ?_⟩
    rw [p21_l1] at hl_16
    refine wp_seq ?_
    refine wp_region_lit ?_
    refine wl_pure (l' := [(9, .bool (decide (c_2 < (lenI x0)))), (8, .int .i64 c_2), (7, .int .i64 (lenI x0)), (6, v0), (3, v_5)]) S tys tys_ok 1 (by kernel_rfl) ?_
    clear S; intro a S
    refine wpList_nil ?_
    refine then_n ?_
    refine wp_seq ?_
    refine wp_cond_split (S.eval (show ev _ _ = some (.bool (decide (c_2 < (lenI x0)))) from rfl)) ?_ ?_
    ·intro hc
     rw [if_pos hc] at hl_16
     refine wp_skip ?_
     refine then_n ?_
     replace S := S.sub (l' := [(8, .int .i64 c_2), (7, .int .i64 (lenI x0)), (6, v0), (3, v_5)]) (by exact ⟨rfl, rfl, rfl, rfl, trivial⟩)
     refine wp_seq ?_
     refine wp_block ?_
     refine wp_seq ?_
     refine wp_region_lit ?_
     obtain ⟨y_19, ey_19, hl_16⟩ := bindS hl_16
     refine w_go S rfl (op_indexAddr S rfl ty23 rfl rfl rfl R0 rfl ey_19 ?_)
     clear S; intro a p_20 R_21 H_22 S
     refine w_go S rfl (op_load (t := (.sl (.int .u8))) (x := y_19) S rfl ty28 rfl rfl rfl R_21 ?_)
     clear S; intro a v_23 R_24 S
     refine wl_pure (l' := [(5, v_23), (11, v_23), (10, .pointer (some p_20)), (8, .int .i64 c_2), (7, .int .i64 (lenI x0)), (6, v0), (3, v_5)]) S tys tys_ok 1 (by kernel_rfl) ?_
     clear S; intro a S
     refine wpList_nil ?_
     refine then_n ?_
     replace S := S.sub (l' := [(5, v_23), (8, .int .i64 c_2), (7, .int .i64 (lenI x0)), (6, v0), (3, v_5)]) (by exact ⟨rfl, rfl, rfl, rfl, rfl, trivial⟩)
     refine wp_region_lit ?_
     refine wl_pure (l' := [(13, v_23), (12, v_5), (5, v_23), (8, .int .i64 c_2), (7, .int .i64 (lenI x0)), (6, v0), (3, v_5)]) S tys tys_ok 2 (by kernel_rfl) ?_
     clear S; intro a S
     refine w_go S rfl (op_len (K := _) S rfl ty28 rfl rfl rfl R_24 ?_)
     clear S; intro a G_25 S
     refine w_go S rfl (op_buildSlice (K := K) (e := (.int .i64)) (vs := [.int .i64 (lenI y_19)]) (xs := [lenI y_19]) S W rfl ty27 rfl rfl (by kernel_rfl) rfl rfl rfl rfl rfl ⟨(RepV.mkInt G_25), trivial⟩ ?_)
     clear S; intro a w_29 v_26 hb_28 R_27 S
     replace R_24 := R_24.step hb_28
     replace R0 := R0.step hb_28
     replace O_6 := O_6.step hb_28
     replace W := W.step hb_28
     obtain ⟨l_30, el_30, hl_16⟩ := bindS hl_16
     refine w_go S rfl (op_append S W (E := 3) 0 rfl ty27 un27 by27 rfl rfl rfl rfl O_6 rfl R_27 el_30 ?_)
     clear S; intro a w_32 v_31 A_33 O_34 S
     replace R_24 : RepV (.sl (.int .u8)) w_32 (Kx K w.heap.size [v_31.ownBlock]) v_23 y_19 := R_24.apd A_33 (i := 0) rfl
     replace R0 : RepV (.sl (.sl (.int .u8))) w_32 (Kx K w.heap.size [v_31.ownBlock]) v0 x0 := R0.apd A_33 (i := 0) rfl
     replace R_27 : RepV (.sl (.int .i64)) w_32 (Kx K w.heap.size [v_31.ownBlock]) v_26 (⟨[lenI y_19], some 1⟩ : Sl (Int)) := R_27.apd A_33 (i := 0) rfl
     replace W : Wd w w_32 [v_31.ownBlock] := W.apd A_33 (i := 0) rfl
     replace O_34 : Ow (.int .i64) 3 w_32 w.heap.size (Kx K w.heap.size [v_31.ownBlock]) v_31 l_30 (capA .none l_30.length) := O_34
     refine wl_pureK (l' := [(3, v_31), (8, .int .i64 c_2), (7, .int .i64 (lenI x0)), (6, v0), (3, v_5)]) S tys tys_ok 1 [3, 8, 7, 6] (by kernel_rfl) ?_
     clear S; intro a S
     refine wpList_nil ?_
     refine blk_n ?_
     refine then_n ?_
     refine wp_region_lit ?_
     obtain ⟨x_35, ex_35, hl_16⟩ := bindS hl_16
     refine w_go S rfl (op_arith S .i64 (c_2 + 1) rfl (.inl rfl) rfl rfl rfl rfl ex_35 ?_)
     clear S; intro a S
     refine wl_pure (l' := [(8, .int .i64 x_35), (17, .int .i64 x_35), (3, v_31), (8, .int .i64 c_2), (7, .int .i64 (lenI x0)), (6, v0), (3, v_5)]) S tys tys_ok 1 (by kernel_rfl) ?_
     clear S; intro a S
     refine wpList_nil ?_
     refine then_n ?_
     exact ⟨x_35, l_30, ⟨v_31, S.sub (by exact ⟨rfl, rfl, rfl, rfl, trivial⟩), W, (ckI_some ex_35).2.1, R0, O_34.forget, hl_16⟩⟩
    ·intro hc
     rw [if_neg (Bool.eq_false_iff.1 hc)] at hl_16
     refine wp_exit ?_
     refine then_x ?_
     refine then_x ?_
     refine blk_hit ?_
     refine then_n ?_
     obtain rfl := Option.some.inj hl_16
     exact ⟨v_5, S.sub (by exact ⟨rfl, trivial⟩), W, O_6⟩
 clear S W; rintro a w_36 ⟨v_13, S, W, O_14⟩
 refine then_n ?_
 refine wp_seq ?_
 refine wp_region_lit ?_
 refine wl_pure (l' := [(2, v_13), (18, v_13), (3, v_13)]) S tys tys_ok 2 (by kernel_rfl) ?_
 clear S; intro a S
 refine wpList_nil ?_
 refine then_n ?_
 replace S := S.sub (l' := [(2, v_13)]) (by exact ⟨rfl, trivial⟩)
 refine wp_ret ?_
 obtain rfl := Option.some.inj h
 exact b_ret1 S rfl rfl ⟨_, rfl, (O_14.lessO 0 rfl), W.below⟩
theorem cb21 : callB Try.prog 21 = true := by kernel_rfl
def p20 (n : Nat) (x0 : Int) : Option ((Int)) :=
 (ckI .i64 (x0 + 3)).bind fun x_1 =>
 (quoI .i64 x_1 4).bind fun x_2 =>
 (ckI .i64 (x_2 * 4)).bind fun x_3 =>
 some x_3
set_option maxHeartbeats 4000000 in
set_option maxRecDepth 100000 in
/-- plugboard/networks.even -/
theorem c20 (K : Nat → Prop) (n : Nat) (w : World) (x0 : Int) (G0 : InR .i64 x0) {r : (Int)} (h : p20 n x0 = some r) :
  Calls Try.prog 20 #[.int .i64 x0] w (Ret1 (.int .i64) w (Kx K w.heap.size []) r) := by
 refine enter (args := [.int .i64 x0]) Try.func20 rfl 7 rfl rfl fun a S => ?_
 have W := Wd.start w
 unfold p20 at h
 replace S : St 7 a [(0, .int .i64 x0)] := S
 refine wp_seq ?_
 refine wp_region_lit ?_
 refine wl_pure (l' := [(2, .int .i64 0), (0, .int .i64 x0)]) S tys tys_ok 1 (by kernel_rfl) ?_
 clear S; intro a S
 refine wpList_nil ?_
 refine then_n ?_
 replace S := S.sub (l' := [(0, .int .i64 x0)]) (by exact ⟨rfl, trivial⟩)
 refine wp_seq ?_
 refine wp_region_lit ?_
 refine wl_pure (l' := [(3, .int .i64 x0), (0, .int .i64 x0)]) S tys tys_ok 1 (by kernel_rfl) ?_
 clear S; intro a S
 obtain ⟨x_1, ex_1, h⟩ := bindS h
 refine w_go S rfl (op_arith S .i64 (x0 + 3) rfl (.inl rfl) rfl rfl rfl rfl ex_1 ?_)
 clear S; intro a S
 obtain ⟨x_2, ex_2, h⟩ := bindS h
 refine w_go S rfl (op_quo S .i64 rfl rfl rfl rfl rfl ex_2 ?_)
 clear S; intro a S
 obtain ⟨x_3, ex_3, h⟩ := bindS h
 refine w_go S rfl (op_arith S .i64 (x_2 * 4) rfl (.inr (.inr rfl)) rfl rfl rfl rfl ex_3 ?_)
 clear S; intro a S
 refine wl_pureK (l' := [(2, .int .i64 x_3)]) S tys tys_ok 1 [2] (by kernel_rfl) ?_
 clear S; intro a S
 refine wpList_nil ?_
 refine then_n ?_
 refine wp_ret ?_
 obtain rfl := Option.some.inj h
 exact b_ret1 S rfl rfl ⟨_, rfl, (RepV.mkInt (ckI_some ex_3).2.1), W.below⟩
theorem cb20 : callB Try.prog 20 = true := by kernel_rfl
def p10_l1 (n : Nat) (x0 : Sl (Int)) : Nat → (Int) → (Int) → Option (((Int)) ⊕ ((Int) × (Int)))
 | 0, _, _ => .none
 | m + 1, c_2, c_4 => if (decide (c_2 < (lenI x0))) then ((idx x0.xs c_2).bind fun y_16 => (if (decide (y_16 < 1)) = false then some (decide (y_16 > 1514)) else some true).bind fun q_22 => if q_22 then (some (.inr (0, 1))) else (ckI .i64 ((if 16384 < c_4 then 16384 else c_4) + y_16)).bind fun x_23 => (p20 n x_23).bind fun t_24 => (ckI .i64 (c_2 + 1)).bind fun x_29 => p10_l1 n x0 m x_29 t_24) else some (.inl c_4)
def p10 (n : Nat) (x0 : Sl (Int)) : Option ((Int) × (Int)) :=
 (p10_l1 n x0 n 0 12).bind fun (y_10 : ((Int)) ⊕ ((Int) × (Int))) =>
 lrK y_10 some fun (s_11 : (Int)) =>
 (ckI .i64 (4 * (lenI x0))).bind fun x_32 =>
 (ckI .i64 (12 + x_32)).bind fun x_33 =>
 (ckI .i64 (s_11 + x_33)).bind fun x_34 =>
 (if (decide ((lenI x0) > 64)) = false then some (decide (x_34 > 16384)) else some true).bind fun q_36 =>
 if q_36 then (some (0, 3)) else some (x_34, 0)
set_option maxHeartbeats 4000000 in
set_option maxRecDepth 100000 in
/-- plugboard/networks.Length -/
theorem c10 (K : Nat → Prop) (n : Nat) (w : World) (x0 : Sl (Int)) (v0 : Value) (R0 : RepV (.sl (.int .i64)) w K v0 x0) {r : (Int) × (Int)} (h : p10 n x0 = some r) :
  Calls Try.prog 10 #[v0] w (Ret2 (.int .i64) (.int .i64) w (Kx K w.heap.size []) r) := by
 refine enter (args := [v0]) Try.func10 rfl 39 rfl rfl fun a S => ?_
 have W := Wd.start w
 replace R0 := R0.arg
 unfold p10 at h
 replace S : St 39 a [(0, v0)] := S
 refine wp_seq ?_
 refine wp_region_lit ?_
 refine wl_pure (l' := [(3, .int .i64 0), (2, .int .i64 0), (0, v0)]) S tys tys_ok 2 (by kernel_rfl) ?_
 clear S; intro a S
 refine wpList_nil ?_
 refine then_n ?_
 replace S := S.sub (l' := [(0, v0)]) (by exact ⟨rfl, trivial⟩)
 refine wp_seq ?_
 refine wp_region_lit ?_
 refine wl_pure (l' := [(4, .int .i64 12), (0, v0)]) S tys tys_ok 1 (by kernel_rfl) ?_
 clear S; intro a S
 refine wpList_nil ?_
 refine then_n ?_
 refine wp_seq ?_
 refine wp_seq ?_
 refine wp_region_lit ?_
 refine wl_pure (l' := [(7, v0), (4, .int .i64 12), (0, v0)]) S tys tys_ok 1 (by kernel_rfl) ?_
 clear S; intro a S
 refine w_go S rfl (op_len (K := _) S rfl ty27 rfl rfl rfl R0 ?_)
 clear S; intro a G_1 S
 refine wl_pure (l' := [(9, .int .i64 0), (8, .int .i64 (lenI x0)), (7, v0), (4, .int .i64 12), (0, v0)]) S tys tys_ok 1 (by kernel_rfl) ?_
 clear S; intro a S
 refine wpList_nil ?_
 refine then_n ?_
 obtain ⟨y_10, ey_10, h⟩ := bindS h
 refine wp_cut_ (fun a_ w_ => ∃ s_11 : (Int), y_10 = .inl s_11 ∧ (St 39 a_ [(0, v0), (4, .int .i64 s_11)] ∧ Wd w w_ [] ∧ InR .i64 s_11 ∧ RepV (.sl (.int .i64)) w_ (Kx K w.heap.size []) v0 x0)) ?_ ?_
 ·refine wp_block ?_
  refine wp_loop_n (fun m_ a_ w_ => ∃ (c_2 : Int) (c_4 : Int) , St 39 a_ [(9, .int .i64 c_2), (8, .int .i64 (lenI x0)), (7, v0), (4, .int .i64 c_4), (0, v0)] ∧ Wd w w_ [] ∧ InR .i64 c_2 ∧ InR .i64 c_4 ∧ RepV (.sl (.int .i64)) w_ (Kx K w.heap.size []) v0 x0 ∧ p10_l1 n x0 m_ c_2 c_4 = some y_10) n ?_ ?_
  ·skip
   exact ⟨0, 12, ⟨S.sub (by exact ⟨rfl, rfl, rfl, rfl, rfl, trivial⟩), W, (by decide), (by decide), R0, ey_10⟩⟩
  ·clear S W; rintro m_13 a w_15 ⟨c_2, c_4, S, W, G_3, G_5, R0, hl_14⟩
   cases m_13 with
   | zero => exact absurd hl_14 (by simp [p10_l1])
   | succ m_13 =>
    refine ⟨m_13, rfl, ?_⟩
    rw [p10_l1] at hl_14
    refine wp_seq ?_
    refine wp_region_lit ?_
    refine wl_pure (l' := [(10, .bool (decide (c_2 < (lenI x0)))), (9, .int .i64 c_2), (8, .int .i64 (lenI x0)), (7, v0), (4, .int .i64 c_4), (0, v0)]) S tys tys_ok 1 (by kernel_rfl) ?_
    clear S; intro a S
    refine wpList_nil ?_
    refine then_n ?_
    refine wp_seq ?_
    refine wp_cond_split (S.eval (show ev _ _ = some (.bool (decide (c_2 < (lenI x0)))) from rfl)) ?_ ?_
    ·intro hc
     rw [if_pos hc] at hl_14
     refine wp_skip ?_
     refine then_n ?_
     replace S := S.sub (l' := [(9, .int .i64 c_2), (8, .int .i64 (lenI x0)), (7, v0), (4, .int .i64 c_4), (0, v0)]) (by exact ⟨rfl, rfl, rfl, rfl, rfl, trivial⟩)
     refine wp_seq ?_
     refine wp_block ?_
     refine wp_seq ?_
     refine wp_region_lit ?_
     obtain ⟨y_16, ey_16, hl_14⟩ := bindS hl_14
     refine w_go S rfl (op_indexAddr S rfl ty27 rfl rfl rfl R0 rfl ey_16 ?_)
     clear S; intro a p_17 R_18 H_19 S
     refine w_go S rfl (op_load (t := (.int .i64)) (x := y_16) S rfl ty3 rfl rfl rfl R_18 ?_)
     clear S; intro a v_20 R_21 S
     obtain ⟨rfl, GR_21⟩ := RepV.int R_21
     refine wl_pure (l' := [(6, .int .i64 y_16), (12, .int .i64 y_16), (11, .pointer (some p_17)), (9, .int .i64 c_2), (8, .int .i64 (lenI x0)), (7, v0), (4, .int .i64 c_4), (0, v0)]) S tys tys_ok 1 (by kernel_rfl) ?_
     clear S; intro a S
     refine wpList_nil ?_
     refine then_n ?_
     replace S := S.sub (l' := [(6, .int .i64 y_16), (9, .int .i64 c_2), (8, .int .i64 (lenI x0)), (7, v0), (4, .int .i64 c_4), (0, v0)]) (by exact ⟨rfl, rfl, rfl, rfl, rfl, rfl, trivial⟩)
     refine wp_seq ?_
     refine wp_seq ?_
     refine wp_region_lit ?_
     refine wl_pure (l' := [(15, .bool (decide (y_16 < 1))), (14, .bool (decide (y_16 < 1))), (13, .int .i64 y_16), (6, .int .i64 y_16), (9, .int .i64 c_2), (8, .int .i64 (lenI x0)), (7, v0), (4, .int .i64 c_4), (0, v0)]) S tys tys_ok 3 (by kernel_rfl) ?_
     clear S; intro a S
     obtain ⟨q_22, eq_22, hl_14⟩ := bindS hl_14
     refine seg 3 (fun a_ w_ => w_15 = w_ ∧ St 39 a_ [(18, .bool q_22), (6, .int .i64 y_16), (9, .int .i64 c_2), (8, .int .i64 (lenI x0)), (7, v0), (4, .int .i64 c_4), (0, v0)]) ?_ ?_
     ·by_cases hc : (decide (y_16 < 1)) = false
      ·rw [if_pos hc] at eq_22; rw [hc] at S
       refine wl_pureK (l' := [(18, .bool (decide (y_16 > 1514))), (17, .bool (decide (y_16 > 1514))), (16, .int .i64 y_16), (6, .int .i64 y_16), (9, .int .i64 c_2), (8, .int .i64 (lenI x0)), (7, v0), (4, .int .i64 c_4), (0, v0)]) S tys tys_ok 3 [18, 17, 16, 6, 9, 8, 7, 4, 0] (by kernel_rfl) ?_
       clear S; intro a S
       obtain rfl := Option.some.inj eq_22
       exact ⟨rfl, S.sub (by exact ⟨rfl, rfl, rfl, rfl, rfl, rfl, rfl, trivial⟩)⟩
      ·rw [if_neg hc] at eq_22; rw [show (decide (y_16 < 1)) = true from (by simpa using hc)] at S
       refine wl_pureK (l' := [(18, .bool true), (17, undef), (16, undef), (6, .int .i64 y_16), (9, .int .i64 c_2), (8, .int .i64 (lenI x0)), (7, v0), (4, .int .i64 c_4), (0, v0)]) S tys tys_ok 3 [18, 17, 16, 6, 9, 8, 7, 4, 0] (by kernel_rfl) ?_
       clear S; intro a S
       obtain rfl := Option.some.inj eq_22
       exact ⟨rfl, S.sub (by exact ⟨rfl, rfl, rfl, rfl, rfl, rfl, rfl, trivial⟩)⟩
     clear S eq_22; rintro a _ ⟨rfl, S⟩
     refine wpList_nil ?_
     refine then_n ?_
     refine wp_cond_split (S.eval (show ev _ _ = some (.bool q_22) from rfl)) ?_ ?_
     ·intro hc
      rw [if_pos hc] at hl_14
      refine wp_seq ?_
      refine wp_region_lit ?_
      refine wl_pureK (l' := [(3, .int .i64 1), (2, .int .i64 0)]) S tys tys_ok 2 [3, 2] (by kernel_rfl) ?_
      clear S; intro a S
      refine wpList_nil ?_
      refine then_n ?_
      refine wp_ret ?_
      refine then_r ?_
      refine blk_r ?_
      refine then_r ?_
      refine then_r ?_
      refine blk_r ?_
      refine then_r ?_
      refine then_r ?_
      obtain rfl := Option.some.inj hl_14
      obtain rfl := lr_inr h
      exact b_ret2 S rfl rfl rfl ⟨_, _, rfl, (RepV.mkInt (by decide)), (RepV.mkInt (by decide)), W.below⟩
     ·intro hc
      rw [if_neg (Bool.eq_false_iff.1 hc)] at hl_14
      refine wp_skip ?_
      refine then_n ?_
      replace S := S.sub (l' := [(6, .int .i64 y_16), (9, .int .i64 c_2), (8, .int .i64 (lenI x0)), (7, v0), (4, .int .i64 c_4), (0, v0)]) (by exact ⟨rfl, rfl, rfl, rfl, rfl, rfl, trivial⟩)
      refine wp_region_lit ?_
      refine wl_pure (l' := [(19, .int .i64 c_4), (6, .int .i64 y_16), (9, .int .i64 c_2), (8, .int .i64 (lenI x0)), (7, v0), (4, .int .i64 c_4), (0, v0)]) S tys tys_ok 1 (by kernel_rfl) ?_
      clear S; intro a S
      refine w_go S rfl (op_min S rfl rfl rfl rfl rfl ?_)
      clear S; intro a S
      refine wl_pure (l' := [(21, .int .i64 y_16), (20, .int .i64 (if 16384 < c_4 then 16384 else c_4)), (19, .int .i64 c_4), (6, .int .i64 y_16), (9, .int .i64 c_2), (8, .int .i64 (lenI x0)), (7, v0), (4, .int .i64 c_4), (0, v0)]) S tys tys_ok 1 (by kernel_rfl) ?_
      clear S; intro a S
      obtain ⟨x_23, ex_23, hl_14⟩ := bindS hl_14
      refine w_go S rfl (op_arith S .i64 ((if 16384 < c_4 then 16384 else c_4) + y_16) rfl (.inl rfl) rfl rfl rfl rfl ex_23 ?_)
      clear S; intro a S
      obtain ⟨t_24, et_24, hl_14⟩ := bindS hl_14
      refine w_go S rfl (op_call (vs := [.int .i64 x_23]) S rfl cb20 rfl rfl rfl (c20 (Kx K w.heap.size []) n w_15 x_23 (ckI_some ex_23).2.1 et_24) ?_)
      rintro _ w_28 ⟨v_25, rfl, R_26, hb_27⟩; refine ⟨_, rfl, ?_⟩
      replace R_26 := RepV.back R_26 W
      clear S; intro a S
      replace R0 := R0.step hb_27
      replace W := W.step hb_27
      obtain ⟨rfl, GR_26⟩ := RepV.int R_26
      refine wl_pureK (l' := [(4, .int .i64 t_24), (9, .int .i64 c_2), (8, .int .i64 (lenI x0)), (7, v0), (4, .int .i64 c_4), (0, v0)]) S tys tys_ok 1 [4, 9, 8, 7, 0] (by kernel_rfl) ?_
      clear S; intro a S
      refine wpList_nil ?_
      refine blk_n ?_
      refine then_n ?_
      refine wp_region_lit ?_
      obtain ⟨x_29, ex_29, hl_14⟩ := bindS hl_14
      refine w_go S rfl (op_arith S .i64 (c_2 + 1) rfl (.inl rfl) rfl rfl rfl rfl ex_29 ?_)
      clear S; intro a S
      refine wl_pure (l' := [(9, .int .i64 x_29), (24, .int .i64 x_29), (4, .int .i64 t_24), (9, .int .i64 c_2), (8, .int .i64 (lenI x0)), (7, v0), (4, .int .i64 c_4), (0, v0)]) S tys tys_ok 1 (by kernel_rfl) ?_
      clear S; intro a S
      refine wpList_nil ?_
      refine then_n ?_
      exact ⟨x_29, t_24, ⟨S.sub (by exact ⟨rfl, rfl, rfl, rfl, rfl, trivial⟩), W, (ckI_some ex_29).2.1, GR_26, R0, hl_14⟩⟩
    ·intro hc
     rw [if_neg (Bool.eq_false_iff.1 hc)] at hl_14
     refine wp_exit ?_
     refine then_x ?_
     refine then_x ?_
     refine blk_hit ?_
     refine then_n ?_
     obtain rfl := Option.some.inj hl_14
     exact ⟨_, rfl, ⟨S.sub (by exact ⟨rfl, rfl, trivial⟩), W, G_5, R0⟩⟩
 clear S W; rintro a w_30 ⟨s_11, rfl, S, W, G_12, R0⟩
 replace h := lr_inl h; try dsimp only at h
 refine then_n ?_
 refine wp_seq ?_
 refine wp_seq ?_
 refine wp_region_lit ?_
 refine wl_pure (l' := [(26, v0), (25, .int .i64 s_11), (0, v0), (4, .int .i64 s_11)]) S tys tys_ok 2 (by kernel_rfl) ?_
 clear S; intro a S
 refine w_go S rfl (op_len (K := _) S rfl ty27 rfl rfl rfl R0 ?_)
 clear S; intro a G_31 S
 obtain ⟨x_32, ex_32, h⟩ := bindS h
 refine w_go S rfl (op_arith S .i64 (4 * (lenI x0)) rfl (.inr (.inr rfl)) rfl rfl rfl rfl ex_32 ?_)
 clear S; intro a S
 obtain ⟨x_33, ex_33, h⟩ := bindS h
 refine w_go S rfl (op_arith S .i64 (12 + x_32) rfl (.inl rfl) rfl rfl rfl rfl ex_33 ?_)
 clear S; intro a S
 obtain ⟨x_34, ex_34, h⟩ := bindS h
 refine w_go S rfl (op_arith S .i64 (s_11 + x_33) rfl (.inl rfl) rfl rfl rfl rfl ex_34 ?_)
 clear S; intro a S
 refine wl_pureK (l' := [(4, .int .i64 x_34), (0, v0), (4, .int .i64 s_11)]) S tys tys_ok 1 [4, 0] (by kernel_rfl) ?_
 clear S; intro a S
 refine wpList_nil ?_
 refine then_n ?_
 refine wp_seq ?_
 refine wp_region_lit ?_
 refine wl_pure (l' := [(31, v0), (4, .int .i64 x_34), (0, v0), (4, .int .i64 s_11)]) S tys tys_ok 1 (by kernel_rfl) ?_
 clear S; intro a S
 refine w_go S rfl (op_len (K := _) S rfl ty27 rfl rfl rfl R0 ?_)
 clear S; intro a G_35 S
 refine wl_pureK (l' := [(34, .bool (decide ((lenI x0) > 64))), (4, .int .i64 x_34), (4, .int .i64 s_11)]) S tys tys_ok 2 [34, 4] (by kernel_rfl) ?_
 clear S; intro a S
 obtain ⟨q_36, eq_36, h⟩ := bindS h
 refine seg 3 (fun a_ w_ => w_30 = w_ ∧ St 39 a_ [(37, .bool q_36), (4, .int .i64 x_34)]) ?_ ?_
 ·by_cases hc : (decide ((lenI x0) > 64)) = false
  ·rw [if_pos hc] at eq_36; rw [hc] at S
   refine wl_pureK (l' := [(37, .bool (decide (x_34 > 16384))), (4, .int .i64 x_34), (4, .int .i64 s_11)]) S tys tys_ok 3 [37, 4] (by kernel_rfl) ?_
   clear S; intro a S
   obtain rfl := Option.some.inj eq_36
   exact ⟨rfl, S.sub (by exact ⟨rfl, rfl, trivial⟩)⟩
  ·rw [if_neg hc] at eq_36; rw [show (decide ((lenI x0) > 64)) = true from (by simpa using hc)] at S
   refine wl_pureK (l' := [(37, .bool true), (4, .int .i64 x_34), (4, .int .i64 s_11)]) S tys tys_ok 3 [37, 4] (by kernel_rfl) ?_
   clear S; intro a S
   obtain rfl := Option.some.inj eq_36
   exact ⟨rfl, S.sub (by exact ⟨rfl, rfl, trivial⟩)⟩
 clear S eq_36; rintro a _ ⟨rfl, S⟩
 refine wpList_nil ?_
 refine then_n ?_
 refine wp_cond_split (S.eval (show ev _ _ = some (.bool q_36) from rfl)) ?_ ?_
 ·intro hc
  rw [if_pos hc] at h
  refine wp_seq ?_
  refine wp_region_lit ?_
  refine wl_pure (l' := [(3, .int .i64 3), (2, .int .i64 0), (37, .bool q_36), (4, .int .i64 x_34)]) S tys tys_ok 2 (by kernel_rfl) ?_
  clear S; intro a S
  refine wpList_nil ?_
  refine then_n ?_
  replace S := S.sub (l' := [(3, .int .i64 3), (2, .int .i64 0)]) (by exact ⟨rfl, rfl, trivial⟩)
  refine wp_ret ?_
  refine then_r ?_
  obtain rfl := Option.some.inj h
  exact b_ret2 S rfl rfl rfl ⟨_, _, rfl, (RepV.mkInt (by decide)), (RepV.mkInt (by decide)), W.below⟩
 ·intro hc
  rw [if_neg (Bool.eq_false_iff.1 hc)] at h
  refine wp_skip ?_
  refine then_n ?_
  replace S := S.sub (l' := [(4, .int .i64 x_34)]) (by exact ⟨rfl, trivial⟩)
  refine wp_seq ?_
  refine wp_region_lit ?_
  refine wl_pure (l' := [(3, .int .i64 0), (2, .int .i64 x_34), (38, .int .i64 x_34), (4, .int .i64 x_34)]) S tys tys_ok 3 (by kernel_rfl) ?_
  clear S; intro a S
  refine wpList_nil ?_
  refine then_n ?_
  replace S := S.sub (l' := [(3, .int .i64 0), (2, .int .i64 x_34)]) (by exact ⟨rfl, rfl, trivial⟩)
  refine wp_ret ?_
  obtain rfl := Option.some.inj h
  exact b_ret2 S rfl rfl rfl ⟨_, _, rfl, (RepV.mkInt (ckI_some ex_34).2.1), (RepV.mkInt (by decide)), W.below⟩
theorem cb10 : callB Try.prog 10 = true := by kernel_rfl
def p23 (n : Nat) (x0 : Int) : Option ((Sl (Int))) :=
 (shrI x0 8 .i64).bind fun x_1 =>
 some (⟨[IntKind.wrap .u8 x0, IntKind.wrap .u8 x_1], some 2⟩ : Sl (Int))
set_option maxHeartbeats 4000000 in
set_option maxRecDepth 100000 in
/-- plugboard/networks.two -/
theorem c23 (K : Nat → Prop) (n : Nat) (w : World) (x0 : Int) (G0 : InR .i64 x0) {r : (Sl (Int))} (h : p23 n x0 = some r) :
  Calls Try.prog 23 #[.int .i64 x0] w (Ret1 (.sl (.int .u8)) w (Kx K w.heap.size []) r) := by
 refine enter (args := [.int .i64 x0]) Try.func23 rfl 9 rfl rfl fun a S => ?_
 have W := Wd.start w
 unfold p23 at h
 replace S : St 9 a [(0, .int .i64 x0)] := S
 refine wp_seq ?_
 refine wp_region_lit ?_
 refine wl_pure (l' := [(2, .slice .none 0 0), (0, .int .i64 x0)]) S tys tys_ok 1 (by kernel_rfl) ?_
 clear S; intro a S
 refine wpList_nil ?_
 refine then_n ?_
 replace S := S.sub (l' := [(0, .int .i64 x0)]) (by exact ⟨rfl, trivial⟩)
 refine wp_seq ?_
 refine wp_region_lit ?_
 refine wl_pure (l' := [(5, .int .i64 x0), (4, .int .u8 (IntKind.wrap .u8 x0)), (3, .int .i64 x0), (0, .int .i64 x0)]) S tys tys_ok 3 (by kernel_rfl) ?_
 clear S; intro a S
 obtain ⟨x_1, ex_1, h⟩ := bindS h
 refine w_go S rfl (op_shr S .i64 .u64 rfl rfl rfl rfl rfl ex_1 ?_)
 clear S; intro a S
 refine wl_pureK (l' := [(7, .int .u8 (IntKind.wrap .u8 x_1)), (4, .int .u8 (IntKind.wrap .u8 x0))]) S tys tys_ok 1 [7, 4] (by kernel_rfl) ?_
 clear S; intro a S
 refine w_go S rfl (op_buildSlice (K := K) (e := (.int .u8)) (vs := [.int .u8 (IntKind.wrap .u8 x0), .int .u8 (IntKind.wrap .u8 x_1)]) (xs := [IntKind.wrap .u8 x0, IntKind.wrap .u8 x_1]) S W rfl ty28 rfl rfl (by kernel_rfl) rfl rfl rfl rfl rfl ⟨(RepV.mkInt (inR_wrap _ _)), (RepV.mkInt (inR_wrap _ _)), trivial⟩ ?_)
 clear S; intro a w_5 v_2 hb_4 R_3 S
 replace W := W.step hb_4
 refine wl_pureK (l' := [(2, v_2)]) S tys tys_ok 1 [2] (by kernel_rfl) ?_
 clear S; intro a S
 refine wpList_nil ?_
 refine then_n ?_
 refine wp_ret ?_
 obtain rfl := Option.some.inj h
 exact b_ret1 S rfl rfl ⟨_, rfl, R_3.out, W.below⟩
theorem cb23 : callB Try.prog 23 = true := by kernel_rfl
def p28 (n : Nat) (x1 : Int) : Option ((Sl (Int))) :=
 if (decide (x1 < 0)) then (.none) else (capO (⟨[], some 0⟩ : Sl (Int))).bind fun x_2 => (ckI .i64 (x_2 - (lenI (⟨[], some 0⟩ : Sl (Int))))).bind fun x_4 => (ckI .i64 (x1 - x_4)).bind fun x_5 => (if (decide (x_5 > 0)) then ((capO (⟨[], some 0⟩ : Sl (Int))).bind fun x_10 => (cutI ([] : List (Int)) x_10).bind fun l_12 => (appZ l_12 x_5 0).bind fun l_16 => (cutI l_16 (lenI (⟨[], some 0⟩ : Sl (Int)))).bind fun l_22 => some l_22) else some ([])).bind fun (j_6 : (List (Int))) => some (⟨j_6, .none⟩ : Sl (Int))
set_option maxHeartbeats 4000000 in
set_option maxRecDepth 100000 in
/-- slices.Grow[[]byte,byte] -/
theorem c28 (K : Nat → Prop) (n : Nat) (w : World) (x1 : Int) (G1 : InR .i64 x1) {r : (Sl (Int))} (h : p28 n x1 = some r) :
  Calls Try.prog 28 #[.slice .none 0 0, .int .i64 x1] w (fun e_ w_ => ∃ v0_ : Value, e_ = .returned v0_ ∧ Ow (.int .u8) 5 w_ w.heap.size (Kx K w.heap.size [v0_.ownBlock]) v0_ r.xs r.cap ∧ Below w.heap.size w w_) := by
 refine enter (args := [.slice .none 0 0, .int .i64 x1]) Try.func28 rfl 27 rfl rfl fun a S => ?_
 have W := Wd.start w
 unfold p28 at h
 replace S : St 27 a [(0, .slice .none 0 0), (1, .int .i64 x1)] := S
 refine wp_seq ?_
 refine wp_region_lit ?_
 refine wl_pure (l' := [(4, .slice .none 0 0), (0, .slice .none 0 0), (1, .int .i64 x1)]) S tys tys_ok 1 (by kernel_rfl) ?_
 clear S; intro a S
 refine wpList_nil ?_
 refine then_n ?_
 replace S := S.sub (l' := [(0, .slice .none 0 0), (1, .int .i64 x1)]) (by exact ⟨rfl, rfl, trivial⟩)
 refine wp_seq ?_
 refine wp_seq ?_
 refine wp_region_lit ?_
 refine wl_pure (l' := [(6, .bool (decide (x1 < 0))), (5, .int .i64 x1), (0, .slice .none 0 0), (1, .int .i64 x1)]) S tys tys_ok 2 (by kernel_rfl) ?_
 clear S; intro a S
 refine wpList_nil ?_
 refine then_n ?_
 replace S := S.sub (l' := [(6, .bool (decide (x1 < 0))), (0, .slice .none 0 0), (1, .int .i64 x1)]) (by exact ⟨rfl, rfl, rfl, trivial⟩)
 refine wp_cond_split (S.eval (show ev _ _ = some (.bool (decide (x1 < 0))) from rfl)) ?_ ?_
 ·intro hc
  rw [if_pos hc] at h
  cases h
 ·intro hc
  rw [if_neg (Bool.eq_false_iff.1 hc)] at h
  refine wp_skip ?_
  refine then_n ?_
  replace S := S.sub (l' := [(0, .slice .none 0 0), (1, .int .i64 x1)]) (by exact ⟨rfl, rfl, trivial⟩)
  refine wp_seq ?_
  refine wp_seq ?_
  refine wp_region_lit ?_
  refine wl_pure (l' := [(9, .slice .none 0 0), (8, .int .i64 x1), (0, .slice .none 0 0), (1, .int .i64 x1)]) S tys tys_ok 2 (by kernel_rfl) ?_
  clear S; intro a S
  obtain ⟨x_2, ex_2, h⟩ := bindS h
  refine w_go S rfl (op_cap (K := _) S rfl ty28 rfl rfl rfl (RepV.nil : RepV (.sl (.int .u8)) w (fun _ => True) _ _) ex_2 ?_)
  clear S; intro a G_1 S
  refine wl_pure (l' := [(11, .slice .none 0 0), (10, .int .i64 x_2), (9, .slice .none 0 0), (8, .int .i64 x1), (0, .slice .none 0 0), (1, .int .i64 x1)]) S tys tys_ok 1 (by kernel_rfl) ?_
  clear S; intro a S
  refine w_go S rfl (op_len (K := _) S rfl ty28 rfl rfl rfl (RepV.nil : RepV (.sl (.int .u8)) w (fun _ => True) _ _) ?_)
  clear S; intro a G_3 S
  obtain ⟨x_4, ex_4, h⟩ := bindS h
  refine w_go S rfl (op_arith S .i64 (x_2 - (lenI (⟨[], some 0⟩ : Sl (Int)))) rfl (.inr (.inl rfl)) rfl rfl rfl rfl ex_4 ?_)
  clear S; intro a S
  obtain ⟨x_5, ex_5, h⟩ := bindS h
  refine w_go S rfl (op_arith S .i64 (x1 - x_4) rfl (.inr (.inl rfl)) rfl rfl rfl rfl ex_5 ?_)
  clear S; intro a S
  refine wl_pureK (l' := [(1, .int .i64 x_5), (0, .slice .none 0 0), (1, .int .i64 x1)]) S tys tys_ok 1 [1, 0] (by kernel_rfl) ?_
  clear S; intro a S
  refine wpList_nil ?_
  refine then_n ?_
  refine wp_seq ?_
  refine wp_region_lit ?_
  refine wl_pure (l' := [(16, .bool (decide (x_5 > 0))), (15, .int .i64 x_5), (1, .int .i64 x_5), (0, .slice .none 0 0), (1, .int .i64 x1)]) S tys tys_ok 2 (by kernel_rfl) ?_
  clear S; intro a S
  refine wpList_nil ?_
  refine then_n ?_
  replace S := S.sub (l' := [(16, .bool (decide (x_5 > 0))), (1, .int .i64 x_5), (0, .slice .none 0 0)]) (by exact ⟨rfl, rfl, rfl, trivial⟩)
  obtain ⟨j_6, ej_6, h⟩ := bindS h
  refine wp_cut_ (fun a_ w_ => ∃ (v_7 : Value), St 27 a_ [(0, v_7)] ∧ Wd w w_ [v_7.ownBlock] ∧ Ow (.int .u8) 5 w_ w.heap.size (Kx K w.heap.size [v_7.ownBlock]) v_7 j_6 .none) ?_ ?_
  ·refine wp_cond_split (S.eval (show ev _ _ = some (.bool (decide (x_5 > 0))) from rfl)) ?_ ?_
   ·intro hc
    rw [if_pos hc] at ej_6
    refine wp_region_lit ?_
    refine wl_pure (l' := [(18, .slice .none 0 0), (17, .slice .none 0 0), (16, .bool (decide (x_5 > 0))), (1, .int .i64 x_5), (0, .slice .none 0 0)]) S tys tys_ok 2 (by kernel_rfl) ?_
    clear S; intro a S
    obtain ⟨x_10, ex_10, ej_6⟩ := bindS ej_6
    refine w_go S rfl (op_cap (K := _) S rfl ty28 rfl rfl rfl (RepV.nil : RepV (.sl (.int .u8)) w (fun _ => True) _ _) ex_10 ?_)
    clear S; intro a G_9 S
    replace W := W.more
    have O_11 : Ow (.int .u8) 5 w w.heap.size (Kx K w.heap.size [.none]) (.slice .none 0 0) ([] : List (Int)) (some 0) := Ow.nil
    obtain ⟨l_12, el_12, ej_6⟩ := bindS ej_6
    refine w_go S rfl (op_cut_own S (E := 5) rfl ty28 un28 rfl rfl rfl O_11 (.inr ⟨_, _, rfl, rfl⟩) el_12 ?_)
    clear S; intro a v_13 hob_14 O_15 S
    replace W : Wd w w [v_13.ownBlock] := by rw [hob_14]; exact W
    replace O_15 : Ow (.int .u8) 5 w w.heap.size (Kx K w.heap.size [v_13.ownBlock]) v_13 l_12 (some 0) := by rw [hob_14]; exact O_15
    refine wl_pureK (l' := [(21, .int .i64 x_5), (20, v_13), (0, .slice .none 0 0)]) S tys tys_ok 1 [21, 20, 0] (by kernel_rfl) ?_
    clear S; intro a S
    obtain ⟨l_16, el_16, ej_6⟩ := bindS ej_6
    refine w_go S rfl (op_append_int (e := (.int .u8)) S W (E := 5) (z0 := 0) 0 _ rfl ty28 ty3 un28 by28 z5 (fun w K => ⟨rfl, by decide⟩) rfl rfl rfl rfl O_15 rfl el_16 ?_)
    clear S; intro a w_18 v_17 A_19 O_20 S
    replace W : Wd w w_18 [v_17.ownBlock] := W.apd A_19 (i := 0) rfl
    replace O_20 : Ow (.int .u8) 5 w_18 w.heap.size (Kx K w.heap.size [v_17.ownBlock]) v_17 l_16 (capA (some 0) l_16.length) := O_20
    refine wl_pure (l' := [(23, .slice .none 0 0), (22, v_17), (21, .int .i64 x_5), (20, v_13), (0, .slice .none 0 0)]) S tys tys_ok 1 (by kernel_rfl) ?_
    clear S; intro a S
    refine w_go S rfl (op_len (K := _) S rfl ty28 rfl rfl rfl (RepV.nil : RepV (.sl (.int .u8)) w_18 (fun _ => True) _ _) ?_)
    clear S; intro a G_21 S
    obtain ⟨l_22, el_22, ej_6⟩ := bindS ej_6
    refine w_go S rfl (op_cut_own S (E := 5) rfl ty28 un28 rfl rfl rfl O_20 (.inr ⟨_, _, rfl, rfl⟩) el_22 ?_)
    clear S; intro a v_23 hob_24 O_25 S
    replace W : Wd w w_18 [v_23.ownBlock] := by rw [hob_24]; exact W
    replace O_25 : Ow (.int .u8) 5 w_18 w.heap.size (Kx K w.heap.size [v_23.ownBlock]) v_23 l_22 (capA (some 0) l_16.length) := by rw [hob_24]; exact O_25
    refine wl_pureK (l' := [(0, v_23), (0, .slice .none 0 0)]) S tys tys_ok 1 [0] (by kernel_rfl) ?_
    clear S; intro a S
    refine wpList_nil ?_
    refine then_n ?_
    obtain rfl := Option.some.inj ej_6
    exact ⟨v_23, S.sub (by exact ⟨rfl, trivial⟩), W, O_25.forget⟩
   ·intro hc
    rw [if_neg (Bool.eq_false_iff.1 hc)] at ej_6
    refine wp_skip ?_
    refine then_n ?_
    obtain rfl := Option.some.inj ej_6
    replace W := W.more
    have O_26 : Ow (.int .u8) 5 w w.heap.size (Kx K w.heap.size [.none]) (.slice .none 0 0) ([] : List (Int)) (some 0) := Ow.nil
    exact ⟨(.slice .none 0 0), S.sub (by exact ⟨rfl, trivial⟩), W, O_26.forget⟩
  clear S W; rintro a w_27 ⟨v_7, S, W, O_8⟩
  refine then_n ?_
  refine wp_seq ?_
  refine wp_region_lit ?_
  refine wl_pure (l' := [(4, v_7), (26, v_7), (0, v_7)]) S tys tys_ok 2 (by kernel_rfl) ?_
  clear S; intro a S
  refine wpList_nil ?_
  refine then_n ?_
  replace S := S.sub (l' := [(4, v_7)]) (by exact ⟨rfl, trivial⟩)
  refine wp_ret ?_
  obtain rfl := Option.some.inj h
  exact b_ret1 S rfl rfl ⟨_, rfl, (O_8.lessO 0 rfl), W.below⟩
theorem cb28 : callB Try.prog 28 = true := by kernel_rfl
def p22_l1 (n : Nat) (x0 : Sl (Sl (Int))) : Nat → (Int) → (Int) → Option ((Int))
 | 0, _, _ => .none
 | m + 1, c_2, c_4 => if (decide (c_2 < (lenI x0))) then ((idx x0.xs c_2).bind fun y_15 => (ckI .i64 (c_4 + (lenI y_15))).bind fun x_22 => if (decide (x_22 < 0)) then (.none) else (ckI .i64 (c_2 + 1)).bind fun x_23 => p22_l1 n x0 m x_23 x_22) else some c_4
def p22_l2 (n : Nat) (x0 : Sl (Sl (Int))) : Nat → (Int) → (List (Int)) → Option ((List (Int)))
 | 0, _, _ => .none
 | m + 1, c_31, c_33 => if (decide (c_31 < (lenI x0))) then ((idx x0.xs c_31).bind fun y_47 => (appI c_33 y_47.xs).bind fun l_53 => (ckI .i64 (c_31 + 1)).bind fun x_58 => p22_l2 n x0 m x_58 l_53) else some c_33
def p22 (n : Nat) (x0 : Sl (Sl (Int))) : Option ((Sl (Int))) :=
 (p22_l1 n x0 n 0 0).bind fun (y_10 : (Int)) =>
 (p28 n y_10).bind fun t_25 =>
 (p22_l2 n x0 n 0 t_25.xs).bind fun (y_41 : (List (Int))) =>
 some (⟨y_41, .none⟩ : Sl (Int))
set_option maxHeartbeats 4000000 in
set_option maxRecDepth 100000 in
/-- slices.Concat[[]byte,byte] -/
theorem c22 (K : Nat → Prop) (n : Nat) (w : World) (x0 : Sl (Sl (Int))) (v0 : Value) (R0 : RepV (.sl (.sl (.int .u8))) w K v0 x0) {r : (Sl (Int))} (h : p22 n x0 = some r) :
  Calls Try.prog 22 #[v0] w (fun e_ w_ => ∃ v0_ : Value, e_ = .returned v0_ ∧ Ow (.int .u8) 5 w_ w.heap.size (Kx K w.heap.size [v0_.ownBlock]) v0_ r.xs r.cap ∧ Below w.heap.size w w_) := by
 refine enter (args := [v0]) Try.func22 rfl 36 rfl rfl fun a S => ?_
 have W := Wd.start w
 replace R0 := R0.arg
 unfold p22 at h
 replace S : St 36 a [(0, v0)] := S
 refine wp_seq ?_
 refine wp_region_lit ?_
 refine wl_pure (l' := [(2, .slice .none 0 0), (0, v0)]) S tys tys_ok 1 (by kernel_rfl) ?_
 clear S; intro a S
 refine wpList_nil ?_
 refine then_n ?_
 replace S := S.sub (l' := [(0, v0)]) (by exact ⟨rfl, trivial⟩)
 refine wp_seq ?_
 refine wp_region_lit ?_
 refine wl_pure (l' := [(3, .int .i64 0), (0, v0)]) S tys tys_ok 1 (by kernel_rfl) ?_
 clear S; intro a S
 refine wpList_nil ?_
 refine then_n ?_
 refine wp_seq ?_
 refine wp_seq ?_
 refine wp_region_lit ?_
 refine wl_pure (l' := [(9, v0), (3, .int .i64 0), (0, v0)]) S tys tys_ok 1 (by kernel_rfl) ?_
 clear S; intro a S
 refine w_go S rfl (op_len (K := _) S rfl ty23 rfl rfl rfl R0 ?_)
 clear S; intro a G_1 S
 refine wl_pure (l' := [(11, .int .i64 0), (10, .int .i64 (lenI x0)), (9, v0), (3, .int .i64 0), (0, v0)]) S tys tys_ok 1 (by kernel_rfl) ?_
 clear S; intro a S
 refine wpList_nil ?_
 refine then_n ?_
 obtain ⟨y_10, ey_10, h⟩ := bindS h
 refine wp_cut_ (fun a_ w_ => St 36 a_ [(0, v0), (3, .int .i64 y_10)] ∧ Wd w w_ [] ∧ InR .i64 y_10 ∧ RepV (.sl (.sl (.int .u8))) w_ (Kx K w.heap.size []) v0 x0) ?_ ?_
 ·refine wp_block ?_
  refine wp_loop_n (fun m_ a_ w_ => ∃ (c_2 : Int) (c_4 : Int) , St 36 a_ [(11, .int .i64 c_2), (10, .int .i64 (lenI x0)), (9, v0), (3, .int .i64 c_4), (0, v0)] ∧ Wd w w_ [] ∧ InR .i64 c_2 ∧ InR .i64 c_4 ∧ RepV (.sl (.sl (.int .u8))) w_ (Kx K w.heap.size []) v0 x0 ∧ p22_l1 n x0 m_ c_2 c_4 = some y_10) n ?_ ?_
  ·skip
   exact ⟨0, 0, ⟨S.sub (by exact ⟨rfl, rfl, rfl, rfl, rfl, trivial⟩), W, (by decide), (by decide), R0, ey_10⟩⟩
  ·clear S W; rintro m_12 a w_14 ⟨c_2, c_4, S, W, G_3, G_5, R0, hl_13⟩
   cases m_12 with
   | zero => exact absurd hl_13 (by simp [p22_l1])
   | succ m_12 =>
    refine ⟨m_12, rfl, ?_⟩
    rw [p22_l1] at hl_13
    refine wp_seq ?_
    refine wp_region_lit ?_
    refine wl_pure (l' := [(12, .bool (decide (c_2 < (lenI x0)))), (11, .int .i64 c_2), (10, .int .i64 (lenI x0)), (9, v0), (3, .int .i64 c_4), (0, v0)]) S tys tys_ok 1 (by kernel_rfl) ?_
    clear S; intro a S
    refine wpList_nil ?_
    refine then_n ?_
    refine wp_seq ?_
    refine wp_cond_split (S.eval (show ev _ _ = some (.bool (decide (c_2 < (lenI x0)))) from rfl)) ?_ ?_
    ·intro hc
     rw [if_pos hc] at hl_13
     refine wp_skip ?_
     refine then_n ?_
     replace S := S.sub (l' := [(11, .int .i64 c_2), (10, .int .i64 (lenI x0)), (9, v0), (3, .int .i64 c_4), (0, v0)]) (by exact ⟨rfl, rfl, rfl, rfl, rfl, trivial⟩)
     refine wp_seq ?_
     refine wp_block ?_
     refine wp_seq ?_
     refine wp_region_lit ?_
     obtain ⟨y_15, ey_15, hl_13⟩ := bindS hl_13
     refine w_go S rfl (op_indexAddr S rfl ty23 rfl rfl rfl R0 rfl ey_15 ?_)
     clear S; intro a p_16 R_17 H_18 S
     refine w_go S rfl (op_load (t := (.sl (.int .u8))) (x := y_15) S rfl ty28 rfl rfl rfl R_17 ?_)
     clear S; intro a v_19 R_20 S
     refine wl_pure (l' := [(5, v_19), (14, v_19), (13, .pointer (some p_16)), (11, .int .i64 c_2), (10, .int .i64 (lenI x0)), (9, v0), (3, .int .i64 c_4), (0, v0)]) S tys tys_ok 1 (by kernel_rfl) ?_
     clear S; intro a S
     refine wpList_nil ?_
     refine then_n ?_
     replace S := S.sub (l' := [(5, v_19), (11, .int .i64 c_2), (10, .int .i64 (lenI x0)), (9, v0), (3, .int .i64 c_4), (0, v0)]) (by exact ⟨rfl, rfl, rfl, rfl, rfl, rfl, trivial⟩)
     refine wp_seq ?_
     refine wp_region_lit ?_
     refine wl_pure (l' := [(16, v_19), (15, .int .i64 c_4), (5, v_19), (11, .int .i64 c_2), (10, .int .i64 (lenI x0)), (9, v0), (3, .int .i64 c_4), (0, v0)]) S tys tys_ok 2 (by kernel_rfl) ?_
     clear S; intro a S
     refine w_go S rfl (op_len (K := _) S rfl ty28 rfl rfl rfl R_20 ?_)
     clear S; intro a G_21 S
     obtain ⟨x_22, ex_22, hl_13⟩ := bindS hl_13
     refine w_go S rfl (op_arith S .i64 (c_4 + (lenI y_15)) rfl (.inl rfl) rfl rfl rfl rfl ex_22 ?_)
     clear S; intro a S
     refine wl_pureK (l' := [(3, .int .i64 x_22), (11, .int .i64 c_2), (10, .int .i64 (lenI x0)), (9, v0), (3, .int .i64 c_4), (0, v0)]) S tys tys_ok 1 [3, 11, 10, 9, 0] (by kernel_rfl) ?_
     clear S; intro a S
     refine wpList_nil ?_
     refine then_n ?_
     refine wp_seq ?_
     refine wp_region_lit ?_
     refine wl_pure (l' := [(20, .bool (decide (x_22 < 0))), (19, .int .i64 x_22), (3, .int .i64 x_22), (11, .int .i64 c_2), (10, .int .i64 (lenI x0)), (9, v0), (3, .int .i64 c_4), (0, v0)]) S tys tys_ok 2 (by kernel_rfl) ?_
     clear S; intro a S
     refine wpList_nil ?_
     refine then_n ?_
     replace S := S.sub (l' := [(20, .bool (decide (x_22 < 0))), (3, .int .i64 x_22), (11, .int .i64 c_2), (10, .int .i64 (lenI x0)), (9, v0), (0, v0)]) (by exact ⟨rfl, rfl, rfl, rfl, rfl, rfl, trivial⟩)
     refine wp_cond_split (S.eval (show ev _ _ = some (.bool (decide (x_22 < 0))) from rfl)) ?_ ?_
     ·intro hc
      rw [if_pos hc] at hl_13
      cases hl_13
     ·intro hc
      rw [if_neg (Bool.eq_false_iff.1 hc)] at hl_13
      refine wp_skip ?_
      refine blk_n ?_
      refine then_n ?_
      replace S := S.sub (l' := [(3, .int .i64 x_22), (11, .int .i64 c_2), (10, .int .i64 (lenI x0)), (9, v0), (0, v0)]) (by exact ⟨rfl, rfl, rfl, rfl, rfl, trivial⟩)
      refine wp_region_lit ?_
      obtain ⟨x_23, ex_23, hl_13⟩ := bindS hl_13
      refine w_go S rfl (op_arith S .i64 (c_2 + 1) rfl (.inl rfl) rfl rfl rfl rfl ex_23 ?_)
      clear S; intro a S
      refine wl_pure (l' := [(11, .int .i64 x_23), (22, .int .i64 x_23), (3, .int .i64 x_22), (11, .int .i64 c_2), (10, .int .i64 (lenI x0)), (9, v0), (0, v0)]) S tys tys_ok 1 (by kernel_rfl) ?_
      clear S; intro a S
      refine wpList_nil ?_
      refine then_n ?_
      exact ⟨x_23, x_22, ⟨S.sub (by exact ⟨rfl, rfl, rfl, rfl, rfl, trivial⟩), W, (ckI_some ex_23).2.1, (ckI_some ex_22).2.1, R0, hl_13⟩⟩
    ·intro hc
     rw [if_neg (Bool.eq_false_iff.1 hc)] at hl_13
     refine wp_exit ?_
     refine then_x ?_
     refine then_x ?_
     refine blk_hit ?_
     refine then_n ?_
     obtain rfl := Option.some.inj hl_13
     exact ⟨S.sub (by exact ⟨rfl, rfl, trivial⟩), W, G_5, R0⟩
 clear S W; rintro a w_24 ⟨S, W, G_11, R0⟩
 refine then_n ?_
 refine wp_seq ?_
 refine wp_region_lit ?_
 refine wl_pure (l' := [(23, .int .i64 y_10), (0, v0), (3, .int .i64 y_10)]) S tys tys_ok 1 (by kernel_rfl) ?_
 clear S; intro a S
 obtain ⟨t_25, et_25, h⟩ := bindS h
 refine w_go S rfl (op_call (vs := [.slice .none 0 0, .int .i64 y_10]) S rfl cb28 rfl rfl rfl (c28 (Kx K w.heap.size []) n w_24 y_10 G_11 et_25) ?_)
 rintro _ w_29 ⟨v_26, rfl, R_27, hb_28⟩; refine ⟨_, rfl, ?_⟩
 have NO_ := newO_of R_27 (Nat.le_refl _) hb_28
 replace R_27 := Ow.backO R_27 W
 clear S; intro a S
 replace R0 := R0.newO NO_
 replace W := W.newO NO_
 clear NO_
 refine wl_pureK (l' := [(6, v_26), (0, v0)]) S tys tys_ok 1 [6, 0] (by kernel_rfl) ?_
 clear S; intro a S
 refine wpList_nil ?_
 refine then_n ?_
 refine wp_seq ?_
 refine wp_seq ?_
 refine wp_region_lit ?_
 refine wl_pure (l' := [(25, v0), (6, v_26), (0, v0)]) S tys tys_ok 1 (by kernel_rfl) ?_
 clear S; intro a S
 refine w_go S rfl (op_len (K := _) S rfl ty23 rfl rfl rfl R0 ?_)
 clear S; intro a G_30 S
 refine wl_pure (l' := [(27, .int .i64 0), (26, .int .i64 (lenI x0)), (25, v0), (6, v_26), (0, v0)]) S tys tys_ok 1 (by kernel_rfl) ?_
 clear S; intro a S
 refine wpList_nil ?_
 refine then_n ?_
 replace S := S.sub (l' := [(27, .int .i64 0), (26, .int .i64 (lenI x0)), (25, v0), (6, v_26)]) (by exact ⟨rfl, rfl, rfl, rfl, trivial⟩)
 obtain ⟨y_41, ey_41, h⟩ := bindS h
 refine wp_cut_ (fun a_ w_ => ∃ (v_42 : Value), St 36 a_ [(6, v_42)] ∧ Wd w w_ [v_42.ownBlock] ∧ Ow (.int .u8) 5 w_ w.heap.size (Kx K w.heap.size [v_42.ownBlock]) v_42 y_41 .none) ?_ ?_
 ·refine wp_block ?_
  refine wp_loop_n (fun m_ a_ w_ => ∃ (c_31 : Int) (c_33 : List (Int)) , ∃ (v_34 : Value), St 36 a_ [(27, .int .i64 c_31), (26, .int .i64 (lenI x0)), (25, v0), (6, v_34)] ∧ Wd w w_ [v_34.ownBlock] ∧ InR .i64 c_31 ∧ RepV (.sl (.sl (.int .u8))) w_ (Kx K w.heap.size [v_34.ownBlock]) v0 x0 ∧ Ow (.int .u8) 5 w_ w.heap.size (Kx K w.heap.size [v_34.ownBlock]) v_34 c_33 .none ∧ p22_l2 n x0 m_ c_31 c_33 = some y_41) n ?_ ?_
  ·skip
   exact ⟨0, t_25.xs, ⟨v_26, S.sub (by exact ⟨rfl, rfl, rfl, rfl, trivial⟩), W, (by decide), R0, R_27.forget, ey_41⟩⟩
  ·clear S W; rintro m_44 a w_46 ⟨c_31, c_33, v_34, S, W, G_32, R0, O_35, hl_45⟩
   cases m_44 with
   | zero => exact absurd hl_45 (by simp [p22_l2])
   | succ m_44 =>
    refine ⟨m_44, rfl, ?_⟩
    rw [p22_l2] at hl_45
    refine wp_seq ?_
    refine wp_region_lit ?_
    refine wl_pure (l' := [(28, .bool (decide (c_31 < (lenI x0)))), (27, .int .i64 c_31), (26, .int .i64 (lenI x0)), (25, v0), (6, v_34)]) S tys tys_ok 1 (by kernel_rfl) ?_
    clear S; intro a S
    refine wpList_nil ?_
    refine then_n ?_
    refine wp_seq ?_
    refine wp_cond_split (S.eval (show ev _ _ = some (.bool (decide (c_31 < (lenI x0)))) from rfl)) ?_ ?_
    ·intro hc
     rw [if_pos hc] at hl_45
     refine wp_skip ?_
     refine then_n ?_
     replace S := S.sub (l' := [(27, .int .i64 c_31), (26, .int .i64 (lenI x0)), (25, v0), (6, v_34)]) (by exact ⟨rfl, rfl, rfl, rfl, trivial⟩)
     refine wp_seq ?_
     refine wp_block ?_
     refine wp_seq ?_
     refine wp_region_lit ?_
     obtain ⟨y_47, ey_47, hl_45⟩ := bindS hl_45
     refine w_go S rfl (op_indexAddr S rfl ty23 rfl rfl rfl R0 rfl ey_47 ?_)
     clear S; intro a p_48 R_49 H_50 S
     refine w_go S rfl (op_load (t := (.sl (.int .u8))) (x := y_47) S rfl ty28 rfl rfl rfl R_49 ?_)
     clear S; intro a v_51 R_52 S
     refine wl_pure (l' := [(8, v_51), (30, v_51), (29, .pointer (some p_48)), (27, .int .i64 c_31), (26, .int .i64 (lenI x0)), (25, v0), (6, v_34)]) S tys tys_ok 1 (by kernel_rfl) ?_
     clear S; intro a S
     refine wpList_nil ?_
     refine then_n ?_
     replace S := S.sub (l' := [(8, v_51), (27, .int .i64 c_31), (26, .int .i64 (lenI x0)), (25, v0), (6, v_34)]) (by exact ⟨rfl, rfl, rfl, rfl, rfl, trivial⟩)
     refine wp_region_lit ?_
     refine wl_pure (l' := [(32, v_51), (31, v_34), (8, v_51), (27, .int .i64 c_31), (26, .int .i64 (lenI x0)), (25, v0), (6, v_34)]) S tys tys_ok 2 (by kernel_rfl) ?_
     clear S; intro a S
     obtain ⟨l_53, el_53, hl_45⟩ := bindS hl_45
     refine w_go S rfl (op_append S W (E := 5) 0 rfl ty28 un28 by28 rfl rfl rfl rfl O_35 rfl R_52 el_53 ?_)
     clear S; intro a w_55 v_54 A_56 O_57 S
     replace R_52 : RepV (.sl (.int .u8)) w_55 (Kx K w.heap.size [v_54.ownBlock]) v_51 y_47 := R_52.apd A_56 (i := 0) rfl
     replace R0 : RepV (.sl (.sl (.int .u8))) w_55 (Kx K w.heap.size [v_54.ownBlock]) v0 x0 := R0.apd A_56 (i := 0) rfl
     replace W : Wd w w_55 [v_54.ownBlock] := W.apd A_56 (i := 0) rfl
     replace O_57 : Ow (.int .u8) 5 w_55 w.heap.size (Kx K w.heap.size [v_54.ownBlock]) v_54 l_53 (capA .none l_53.length) := O_57
     refine wl_pureK (l' := [(6, v_54), (27, .int .i64 c_31), (26, .int .i64 (lenI x0)), (25, v0), (6, v_34)]) S tys tys_ok 1 [6, 27, 26, 25] (by kernel_rfl) ?_
     clear S; intro a S
     refine wpList_nil ?_
     refine blk_n ?_
     refine then_n ?_
     refine wp_region_lit ?_
     obtain ⟨x_58, ex_58, hl_45⟩ := bindS hl_45
     refine w_go S rfl (op_arith S .i64 (c_31 + 1) rfl (.inl rfl) rfl rfl rfl rfl ex_58 ?_)
     clear S; intro a S
     refine wl_pure (l' := [(27, .int .i64 x_58), (34, .int .i64 x_58), (6, v_54), (27, .int .i64 c_31), (26, .int .i64 (lenI x0)), (25, v0), (6, v_34)]) S tys tys_ok 1 (by kernel_rfl) ?_
     clear S; intro a S
     refine wpList_nil ?_
     refine then_n ?_
     exact ⟨x_58, l_53, ⟨v_54, S.sub (by exact ⟨rfl, rfl, rfl, rfl, trivial⟩), W, (ckI_some ex_58).2.1, R0, O_57.forget, hl_45⟩⟩
    ·intro hc
     rw [if_neg (Bool.eq_false_iff.1 hc)] at hl_45
     refine wp_exit ?_
     refine then_x ?_
     refine then_x ?_
     refine blk_hit ?_
     refine then_n ?_
     obtain rfl := Option.some.inj hl_45
     exact ⟨v_34, S.sub (by exact ⟨rfl, trivial⟩), W, O_35⟩
 clear S W; rintro a w_59 ⟨v_42, S, W, O_43⟩
 refine then_n ?_
 refine wp_seq ?_
 refine wp_region_lit ?_
 refine wl_pure (l' := [(2, v_42), (35, v_42), (6, v_42)]) S tys tys_ok 2 (by kernel_rfl) ?_
 clear S; intro a S
 refine wpList_nil ?_
 refine then_n ?_
 replace S := S.sub (l' := [(2, v_42)]) (by exact ⟨rfl, trivial⟩)
 refine wp_ret ?_
 obtain rfl := Option.some.inj h
 exact b_ret1 S rfl rfl ⟨_, rfl, (O_43.lessO 0 rfl), W.below⟩
theorem cb22 : callB Try.prog 22 = true := by kernel_rfl
def p24 (n : Nat) (x0 : Sl (Int)) : Option ((Sl (Int))) :=
 (sl3I x0 0 (lenI x0) (lenI x0)).bind fun s_5 =>
 some s_5
set_option maxHeartbeats 4000000 in
set_option maxRecDepth 100000 in
/-- slices.Clip[[]byte,byte] -/
theorem c24 (K : Nat → Prop) (n : Nat) (w : World) (x0 : Sl (Int)) (v0 : Value) (R0 : RepV (.sl (.int .u8)) w K v0 x0) {r : (Sl (Int))} (h : p24 n x0 = some r) :
  Calls Try.prog 24 #[v0] w (Ret1 (.sl (.int .u8)) w (Kx K w.heap.size []) r) := by
 refine enter (args := [v0]) Try.func24 rfl 9 rfl rfl fun a S => ?_
 have W := Wd.start w
 replace R0 := R0.arg
 unfold p24 at h
 replace S : St 9 a [(0, v0)] := S
 refine wp_seq ?_
 refine wp_region_lit ?_
 refine wl_pure (l' := [(2, .slice .none 0 0), (0, v0)]) S tys tys_ok 1 (by kernel_rfl) ?_
 clear S; intro a S
 refine wpList_nil ?_
 refine then_n ?_
 replace S := S.sub (l' := [(0, v0)]) (by exact ⟨rfl, trivial⟩)
 refine wp_seq ?_
 refine wp_region_lit ?_
 refine wl_pure (l' := [(4, v0), (3, v0), (0, v0)]) S tys tys_ok 2 (by kernel_rfl) ?_
 clear S; intro a S
 refine w_go S rfl (op_len (K := _) S rfl ty28 rfl rfl rfl R0 ?_)
 clear S; intro a G_1 S
 refine wl_pure (l' := [(6, v0), (5, .int .i64 (lenI x0)), (4, v0), (3, v0), (0, v0)]) S tys tys_ok 1 (by kernel_rfl) ?_
 clear S; intro a S
 refine w_go S rfl (op_len (K := _) S rfl ty28 rfl rfl rfl R0 ?_)
 clear S; intro a G_2 S
 obtain ⟨s_5, es_5, h⟩ := bindS h
 refine w_go S rfl (op_slice3 S rfl ty28 rfl rfl rfl R0 (.inl ⟨rfl, rfl⟩) rfl rfl es_5 ?_)
 clear S; intro a v_3 R_4 S
 refine wl_pureK (l' := [(2, v_3)]) S tys tys_ok 1 [2] (by kernel_rfl) ?_
 clear S; intro a S
 refine wpList_nil ?_
 refine then_n ?_
 refine wp_ret ?_
 obtain rfl := Option.some.inj h
 exact b_ret1 S rfl rfl ⟨_, rfl, R_4.out, W.below⟩
set_option maxRecDepth 100000 in
/-- slices.Clip[[]byte,byte], of a slice of one's own. -/
theorem cut24 (n : Nat) (w : World) {K : Nat → Prop} {m : Nat} {L : List (Option Nat)} {v : Value} {xs : List (Int)} {c : Option Nat} {r : Sl (Int)} (O : Ow (.int .u8) 5 w m (Kx K m L) v xs c) (h : p24 n (⟨xs, c⟩ : Sl (Int)) = some r) :
  Calls Try.prog 24 #[v] w (fun e_ w_ => e_ = .returned (cutV v) ∧ w = w_ ∧ r = ⟨xs, some xs.length⟩) := by
 refine enter (args := [v]) Try.func24 rfl 9 rfl rfl fun a S => ?_
 have R0 := O.read
 unfold p24 at h
 obtain ⟨s_, es_, h⟩ := bindS h
 obtain rfl := Option.some.inj h
 replace S : St 9 a [(0, v)] := S
 refine wp_seq ?_
 refine wp_region_lit ?_
 refine wl_pure (l' := [(2, .slice .none 0 0), (0, v)]) S tys tys_ok 1 (by kernel_rfl) ?_
 clear S; intro a S
 refine wpList_nil ?_
 refine then_n ?_
 replace S := S.sub (l' := [(0, v)]) (by exact ⟨rfl, trivial⟩)
 refine wp_seq ?_
 refine wp_region_lit ?_
 refine wl_pure (l' := [(4, v), (3, v), (0, v)]) S tys tys_ok 2 (by kernel_rfl) ?_
 clear S; intro a S
 refine w_go S rfl (op_len (K := _) S rfl ty28 rfl rfl rfl R0 ?_)
 clear S; intro a G_1 S
 refine wl_pure (l' := [(6, v), (5, .int .i64 (lenI (⟨xs, c⟩ : Sl (Int)))), (4, v), (3, v), (0, v)]) S tys tys_ok 1 (by kernel_rfl) ?_
 clear S; intro a S
 refine w_go S rfl (op_len (K := _) S rfl ty28 rfl rfl rfl R0 ?_)
 clear S; intro a G_2 S
 refine w_go S rfl (op_clip S rfl ty28 rfl rfl rfl R0 rfl rfl ?_)
 clear S; intro a S
 refine wl_pureK (l' := [(2, (cutV v))]) S tys tys_ok 1 [2] (by kernel_rfl) ?_
 clear S; intro a S
 refine wpList_nil ?_
 refine then_n ?_
 refine wp_ret ?_
 exact b_ret1 S rfl rfl ⟨rfl, rfl, clip_val es_⟩
theorem cb24 : callB Try.prog 24 = true := by kernel_rfl
def p11_l1 (n : Nat) (x0 : Int × (Sl (Sl (Int)))) : Nat → (Int) → (List (Int)) → (List (Int)) → Option ((List (Int)) × (List (Int)))
 | 0, _, _, _ => .none
 | m + 1, c_158, c_160, c_163 => if (decide (c_158 < (lenI x0.2))) then ((idx x0.2.xs c_158).bind fun y_182 => (p23 n (lenI (⟨c_163, .none⟩ : Sl (Int)))).bind fun t_189 => (p23 n (lenI y_182)).bind fun t_195 => (p22 n (⟨[(⟨c_160, .none⟩ : Sl (Int)), t_189, t_195], some 3⟩ : Sl (Sl (Int)))).bind fun t_205 => (appI c_163 y_182.xs).bind fun l_210 => (p20 n (lenI (⟨l_210, capA .none l_210.length⟩ : Sl (Int)))).bind fun t_216 => (ckI .i64 (t_216 - (lenI (⟨l_210, capA .none l_210.length⟩ : Sl (Int))))).bind fun x_222 => (appZ l_210 x_222 0).bind fun l_223 => (ckI .i64 (c_158 + 1)).bind fun x_228 => p11_l1 n x0 m x_228 t_205.xs l_223) else some (c_163, c_160)
def p11 (n : Nat) (x0 : Int × (Sl (Sl (Int)))) : Option ((Sl (Int)) × (Int)) :=
 (p21 n x0.2).bind fun t_7 =>
 (p10 n (⟨t_7.xs, t_7.cap⟩ : Sl (Int))).bind fun t_12 =>
 if (t_12.2 != 0) then (some ((⟨[], some 0⟩ : Sl (Int)), t_12.2)) else (ckI .i64 (t_12.1 - 12)).bind fun x_19 => (ckI .i64 (4 * (lenI x0.2))).bind fun x_23 => (ckI .i64 (x_19 - x_23)).bind fun x_24 => (p23 n 12).bind fun t_32 => (p23 n x0.1).bind fun t_39 => (p23 n t_12.1).bind fun t_44 => (p23 n x_24).bind fun t_49 => (p22 n (⟨[(⟨[78, 67, 77, 72], some 4⟩ : Sl (Int)), t_32, t_39, t_44, t_49], some 5⟩ : Sl (Sl (Int)))).bind fun t_119 => (ckI .i64 (4 * (lenI x0.2))).bind fun x_134 => (ckI .i64 (12 + x_134)).bind fun x_135 => (p23 n x_135).bind fun t_136 => (p23 n 0).bind fun t_141 => (p22 n (⟨[(⟨[78, 67, 77, 48], some 4⟩ : Sl (Int)), t_136, t_141], some 3⟩ : Sl (Sl (Int)))).bind fun t_150 => (p11_l1 n x0 n 0 t_150.xs t_119.xs).bind fun (y_174 : (List (Int)) × (List (Int))) => (mkI 4 4).bind fun m_230 => (p22 n (⟨[(⟨y_174.1, .none⟩ : Sl (Int)), (⟨y_174.2, .none⟩ : Sl (Int)), (⟨(List.replicate m_230.1 (0 : Int)), some m_230.2⟩ : Sl (Int))], some 3⟩ : Sl (Sl (Int)))).bind fun t_242 => (p24 n (⟨t_242.xs, t_242.cap⟩ : Sl (Int))).bind fun t_248 => some (t_248, 0)
set_option maxHeartbeats 4000000 in
set_option maxRecDepth 100000 in
/-- plugboard/networks.Encode -/
theorem c11 (K : Nat → Prop) (n : Nat) (w : World) (x0 : Int × (Sl (Sl (Int)))) (v0 : Value) (R0 : RepV gt0 w K v0 x0) {r : (Sl (Int)) × (Int)} (h : p11 n x0 = some r) :
  Calls Try.prog 11 #[v0] w (Ret2 (.sl (.int .u8)) (.int .i64) w (Kx K w.heap.size []) r) := by
 refine enter (args := [v0]) Try.func11 rfl 86 rfl rfl fun a S => ?_
 have W := Wd.start w
 replace R0 := R0.arg
 unfold p11 at h
 replace S : St 86 a [(0, v0)] := S
 refine wp_seq ?_
 refine wp_region_lit ?_
 refine w_go S rfl (op_box S rfl rfl rfl rfl rfl R0 ?_)
 clear S; intro a w_3 b_1 hb_4 B_2 S
 replace R0 := R0.box hb_4
 replace W := W.box hb_4
 refine wl_pureK (l' := [(1, pB b_1)]) S tys tys_ok 2 [1] (by kernel_rfl) ?_
 clear S; intro a S
 refine wpList_nil ?_
 refine then_n ?_
 refine wp_seq ?_
 refine wp_region_lit ?_
 refine wl_pure (l' := [(12, .pointer (some ((⟨b_1, 0, .none⟩ : Addr).add (coff gf0 1)))), (1, pB b_1)]) S tys tys_ok 1 (by kernel_rfl) ?_
 clear S; intro a S
 refine w_go S rfl (op_load (t := (.sl (.sl (.int .u8)))) (x := x0.2) S rfl ty23 rfl rfl rfl (RepAt.add 1 (RepAt.st (t := gf0) B_2.at_)) ?_)
 clear S; intro a v_5 R_6 S
 obtain ⟨t_7, et_7, h⟩ := bindS h
 refine w_go S rfl (op_call (vs := [v_5]) S rfl cb21 rfl rfl rfl (c21 (Kx K w.heap.size [some b_1]) n w_3 x0.2 _ R_6 et_7) ?_)
 rintro _ w_11 ⟨v_8, rfl, R_9, hb_10⟩; refine ⟨_, rfl, ?_⟩
 have NO_ := newO_of R_9 (Nat.le_refl _) hb_10
 replace R_9 := Ow.backO R_9 W
 clear S; intro a S
 replace R_6 := R_6.newO NO_
 replace B_2 := B_2.newO NO_
 replace W := W.newO NO_
 clear NO_
 obtain ⟨t_12, et_12, h⟩ := bindS h
 refine w_go S rfl (op_call (vs := [v_8]) S rfl cb10 rfl rfl rfl (c10 (Kx K w.heap.size []) n w_11 (⟨t_7.xs, t_7.cap⟩ : Sl (Int)) _ R_9.read et_12) ?_)
 rintro _ w_18 ⟨v_13, v_14, rfl, R_15, R_16, hb_17⟩; refine ⟨_, rfl, ?_⟩
 clear S; intro a S
 replace R_6 := R_6.step hb_17
 replace B_2 := B_2.step hb_17
 replace R_9 := R_9.step hb_17
 replace W := W.step hb_17
 obtain ⟨rfl, GR_15⟩ := RepV.int R_15
 obtain ⟨rfl, GR_16⟩ := RepV.int R_16
 refine wl_pureK (l' := [(5, .int .i64 t_12.2), (4, .int .i64 t_12.1), (1, pB b_1)]) S tys tys_ok 5 [5, 4, 1] (by kernel_rfl) ?_
 clear S; intro a S
 refine wpList_nil ?_
 refine then_n ?_
 refine wp_seq ?_
 refine wp_seq ?_
 refine wp_region_lit ?_
 refine wl_pure (l' := [(19, .bool (t_12.2 != 0)), (18, .int .i64 t_12.2), (5, .int .i64 t_12.2), (4, .int .i64 t_12.1), (1, pB b_1)]) S tys tys_ok 2 (by kernel_rfl) ?_
 clear S; intro a S
 refine wpList_nil ?_
 refine then_n ?_
 replace S := S.sub (l' := [(19, .bool (t_12.2 != 0)), (5, .int .i64 t_12.2), (4, .int .i64 t_12.1), (1, pB b_1)]) (by exact ⟨rfl, rfl, rfl, rfl, trivial⟩)
 refine wp_cond_split (S.eval (show ev _ _ = some (.bool (t_12.2 != 0)) from rfl)) ?_ ?_
 ·intro hc
  rw [if_pos hc] at h
  refine wp_seq ?_
  refine wp_region_lit ?_
  refine wl_pureK (l' := [(3, .int .i64 t_12.2), (2, .slice .none 0 0)]) S tys tys_ok 3 [3, 2] (by kernel_rfl) ?_
  clear S; intro a S
  refine wpList_nil ?_
  refine then_n ?_
  refine wp_ret ?_
  refine then_r ?_
  obtain rfl := Option.some.inj h
  exact b_ret2 S rfl rfl rfl ⟨_, _, rfl, RepV.nil, (RepV.mkInt GR_16), W.below⟩
 ·intro hc
  rw [if_neg (Bool.eq_false_iff.1 hc)] at h
  refine wp_skip ?_
  refine then_n ?_
  replace S := S.sub (l' := [(4, .int .i64 t_12.1), (1, pB b_1)]) (by exact ⟨rfl, rfl, trivial⟩)
  refine wp_seq ?_
  refine wp_region_lit ?_
  refine wl_pure (l' := [(21, .int .i64 t_12.1), (4, .int .i64 t_12.1), (1, pB b_1)]) S tys tys_ok 1 (by kernel_rfl) ?_
  clear S; intro a S
  obtain ⟨x_19, ex_19, h⟩ := bindS h
  refine w_go S rfl (op_arith S .i64 (t_12.1 - 12) rfl (.inr (.inl rfl)) rfl rfl rfl rfl ex_19 ?_)
  clear S; intro a S
  refine wl_pure (l' := [(23, .pointer (some ((⟨b_1, 0, .none⟩ : Addr).add (coff gf0 1)))), (22, .int .i64 x_19), (21, .int .i64 t_12.1), (4, .int .i64 t_12.1), (1, pB b_1)]) S tys tys_ok 1 (by kernel_rfl) ?_
  clear S; intro a S
  refine w_go S rfl (op_load (t := (.sl (.sl (.int .u8)))) (x := x0.2) S rfl ty23 rfl rfl rfl (RepAt.add 1 (RepAt.st (t := gf0) B_2.at_)) ?_)
  clear S; intro a v_20 R_21 S
  refine w_go S rfl (op_len (K := _) S rfl ty23 rfl rfl rfl R_21 ?_)
  clear S; intro a G_22 S
  obtain ⟨x_23, ex_23, h⟩ := bindS h
  refine w_go S rfl (op_arith S .i64 (4 * (lenI x0.2)) rfl (.inr (.inr rfl)) rfl rfl rfl rfl ex_23 ?_)
  clear S; intro a S
  obtain ⟨x_24, ex_24, h⟩ := bindS h
  refine w_go S rfl (op_arith S .i64 (x_19 - x_23) rfl (.inr (.inl rfl)) rfl rfl rfl rfl ex_24 ?_)
  clear S; intro a S
  refine wl_pureK (l' := [(6, .int .i64 x_24), (4, .int .i64 t_12.1), (1, pB b_1)]) S tys tys_ok 1 [6, 4, 1] (by kernel_rfl) ?_
  clear S; intro a S
  refine wpList_nil ?_
  refine then_n ?_
  refine wp_seq ?_
  obtain ⟨t_32, et_32, h⟩ := bindS h
  obtain ⟨t_39, et_39, h⟩ := bindS h
  obtain ⟨t_44, et_44, h⟩ := bindS h
  obtain ⟨t_49, et_49, h⟩ := bindS h
  have hR : Rel (Kx K w.heap.size [v_8.ownBlock, some b_1]) (Mk w.heap.size [v_8.ownBlock, some b_1]) := Mk.rel _ _ _
  refine wp_region_suf 11 [1, 11, 11, 4, 5, 6, 11, 8, 11, 10, 11, 12, 13] hR [isRep (.sl (.int .u8)) (Kx NoK w.heap.size [v_8.ownBlock, some b_1]) (⟨[78, 67, 77, 72], some 4⟩ : Sl (Int)), isRep (.sl (.int .u8)) (Kx K w.heap.size [v_8.ownBlock, some b_1]) (⟨[78, 67, 77, 72], some 4⟩ : Sl (Int)), isRep (.sl (.int .u8)) (Kx K w.heap.size [v_8.ownBlock, some b_1]) t_32, eqv (.pointer (some ((⟨b_1, 0, .none⟩ : Addr).add (coff gf0 0)))), isI .u16 x0.1, isI .i64 x0.1, isRep (.sl (.int .u8)) (Kx K w.heap.size [v_8.ownBlock, some b_1]) t_39, isI .i64 t_12.1, isRep (.sl (.int .u8)) (Kx K w.heap.size [v_8.ownBlock, some b_1]) t_44, isI .i64 x_24, isRep (.sl (.int .u8)) (Kx K w.heap.size [v_8.ownBlock, some b_1]) t_49] [[], [(0, 28)], [], [], [(3, 31)], [(4, 32)], [(5, 33)], [], [(7, 35)], [], [(9, 37)]] (by kernel_rfl) (by rw [S.size]; kernel_rfl) (by kernel_rfl) (by kernel_rfl) (by kernel_rfl) rfl ⟨(stab_rep (Mk.rel _ _ _)), (stab_rep hR), (stab_rep hR), (stab_eqv _), stab_I, stab_I, (stab_rep hR), stab_I, (stab_rep hR), stab_I, (stab_rep hR), trivial⟩ ?_ ?_
  ·
   refine RunAll.cons (isRep (.sl (.int .u8)) (Kx NoK w.heap.size [v_8.ownBlock, some b_1]) (⟨[78, 67, 77, 72], some 4⟩ : Sl (Int))) [] rfl rfl ?_ ?_
   ·intro W_ hW
    have S1 := S
    refine fill_nil S1 ?_; clear S1; intro a_ S1
    replace W := W.mk_ hW
    have S0 := S.defers; replace S := S1; clear S1
    refine w_go S rfl (op_buildSlice (K := NoK) (e := (.int .u8)) (vs := [.int .u8 78, .int .u8 67, .int .u8 77, .int .u8 72]) (xs := [78, 67, 77, 72]) S W rfl ty28 rfl rfl (by kernel_rfl) rfl rfl rfl rfl rfl ⟨(RepV.mkInt (by decide)), (RepV.mkInt (by decide)), (RepV.mkInt (by decide)), (RepV.mkInt (by decide)), trivial⟩ ?_)
    clear S; intro a w_57 v_54 hb_56 R_55 S
    refine wpList_nil ?_
    exact RPost.mk_ S rfl S0 R_55 (hR.below _ _ (hb_56))
   refine RunAll.cons (isRep (.sl (.int .u8)) (Kx K w.heap.size [v_8.ownBlock, some b_1]) (⟨[78, 67, 77, 72], some 4⟩ : Sl (Int))) [(isRep (.sl (.int .u8)) (Kx NoK w.heap.size [v_8.ownBlock, some b_1]) (⟨[78, 67, 77, 72], some 4⟩ : Sl (Int)), 28)] rfl rfl ?_ ?_
   ·intro W_ hW
    have S1 := S
    intro v_59 hF_58; replace hF_58 : RepV _ _ _ _ _ := hF_58
    replace S1 := S1.put (by decide : 28 < 86) (v_59)
    refine fill_nil S1 ?_; clear S1; intro a_ S1
    replace W := W.mk_ hW
    have S0 := S.defers; replace S := S1; clear S1
    refine w_go S rfl (op_mark S W rfl ty28 rfl rfl rfl (by rfl) hF_58 ?_)
    clear S; intro a w_61 hm_62 R_60 S
    replace R_60 : RepV _ _ (Kx K w.heap.size [v_8.ownBlock, some b_1]) _ _ := RepV.weak R_60
    refine wpList_nil ?_
    exact RPost.mk_ S rfl S0 R_60 (hm_62)
   refine RunAll.cons (isRep (.sl (.int .u8)) (Kx K w.heap.size [v_8.ownBlock, some b_1]) t_32) [] rfl rfl ?_ ?_
   ·intro W_ hW
    have S1 := S
    refine fill_nil S1 ?_; clear S1; intro a_ S1
    replace W := W.mk_ hW
    have S0 := S.defers; replace S := S1; clear S1
    refine w_go S rfl (op_call (vs := [.int .i64 12]) S rfl cb23 rfl rfl rfl (c23 (Kx K w.heap.size [v_8.ownBlock, some b_1]) n W_ 12 (by decide) et_32) ?_)
    rintro _ w_66 ⟨v_63, rfl, R_64, hb_65⟩; refine ⟨_, rfl, ?_⟩
    replace R_64 := RepV.back R_64 W
    clear S; intro a S
    refine wpList_nil ?_
    exact RPost.mk_ S rfl S0 R_64 (hR.below _ _ (hb_65))
   refine RunAll.cons (eqv (.pointer (some ((⟨b_1, 0, .none⟩ : Addr).add (coff gf0 0))))) [] rfl rfl ?_ ?_
   ·intro W_ hW
    have S1 := S
    replace B_2 := B_2.mk_ hW (by simp)
    exact RPost.one (v := .pointer (some ((⟨b_1, 0, .none⟩ : Addr).add (coff gf0 0)))) S1 tys tys_ok rfl (by kernel_rfl) S.defers rfl (hR.below _ _ (Below.refl _ _))
   refine RunAll.cons (isI .u16 x0.1) [(eqv (.pointer (some ((⟨b_1, 0, .none⟩ : Addr).add (coff gf0 0)))), 31)] rfl rfl ?_ ?_
   ·intro W_ hW
    have S1 := S
    intro v_68 hF_67; obtain rfl : .pointer (some ((⟨b_1, 0, .none⟩ : Addr).add (coff gf0 0))) = v_68 := Eq.symm hF_67
    replace S1 := S1.put (by decide : 31 < 86) (.pointer (some ((⟨b_1, 0, .none⟩ : Addr).add (coff gf0 0))))
    refine fill_nil S1 ?_; clear S1; intro a_ S1
    replace B_2 := B_2.mk_ hW (by simp)
    have S0 := S.defers; replace S := S1; clear S1
    refine w_go S rfl (op_load (t := (.int .u16)) (x := x0.1) S rfl ty22 rfl rfl rfl (RepAt.add 0 (RepAt.st (t := gf0) B_2.at_)) ?_)
    clear S; intro a v_69 R_70 S
    obtain ⟨rfl, GR_70⟩ := RepV.int R_70
    refine wpList_nil ?_
    exact RPost.mk_ S rfl S0 ⟨rfl, GR_70⟩ (hR.below _ _ (Below.refl _ _))
   refine RunAll.cons (isI .i64 x0.1) [(isI .u16 x0.1, 32)] rfl rfl ?_ ?_
   ·intro W_ hW
    have S1 := S
    rintro _ ⟨rfl, hF_71⟩
    replace S1 := S1.put (by decide : 32 < 86) (.int .u16 x0.1)
    refine fill_nil S1 ?_; clear S1; intro a_ S1
    replace W := W.mk_ hW
    have S0 := S.defers; replace S := S1; clear S1
    refine w_go S rfl (op_conv S .i64 .bool .bool rfl ty22 ty3 rfl rfl rfl (widen hF_71 (by decide)).1 ?_)
    clear S; intro a S
    refine wpList_nil ?_
    exact RPost.mk_ S rfl S0 ⟨rfl, (widen hF_71 (by decide)).2⟩ (hR.below _ _ (Below.refl _ _))
   refine RunAll.cons (isRep (.sl (.int .u8)) (Kx K w.heap.size [v_8.ownBlock, some b_1]) t_39) [(isI .i64 x0.1, 33)] rfl rfl ?_ ?_
   ·intro W_ hW
    have S1 := S
    rintro _ ⟨rfl, hF_73⟩
    replace S1 := S1.put (by decide : 33 < 86) (.int .i64 x0.1)
    refine fill_nil S1 ?_; clear S1; intro a_ S1
    replace W := W.mk_ hW
    have S0 := S.defers; replace S := S1; clear S1
    refine w_go S rfl (op_call (vs := [.int .i64 x0.1]) S rfl cb23 rfl rfl rfl (c23 (Kx K w.heap.size [v_8.ownBlock, some b_1]) n W_ x0.1 hF_73 et_39) ?_)
    rintro _ w_78 ⟨v_75, rfl, R_76, hb_77⟩; refine ⟨_, rfl, ?_⟩
    replace R_76 := RepV.back R_76 W
    clear S; intro a S
    refine wpList_nil ?_
    exact RPost.mk_ S rfl S0 R_76 (hR.below _ _ (hb_77))
   refine RunAll.cons (isI .i64 t_12.1) [] rfl rfl ?_ ?_
   ·intro W_ hW
    have S1 := S
    exact RPost.one (v := .int .i64 t_12.1) S1 tys tys_ok rfl (by kernel_rfl) S.defers ⟨rfl, GR_15⟩ (hR.below _ _ (Below.refl _ _))
   refine RunAll.cons (isRep (.sl (.int .u8)) (Kx K w.heap.size [v_8.ownBlock, some b_1]) t_44) [(isI .i64 t_12.1, 35)] rfl rfl ?_ ?_
   ·intro W_ hW
    have S1 := S
    rintro _ ⟨rfl, hF_79⟩
    replace S1 := S1.put (by decide : 35 < 86) (.int .i64 t_12.1)
    refine fill_nil S1 ?_; clear S1; intro a_ S1
    replace W := W.mk_ hW
    have S0 := S.defers; replace S := S1; clear S1
    refine w_go S rfl (op_call (vs := [.int .i64 t_12.1]) S rfl cb23 rfl rfl rfl (c23 (Kx K w.heap.size [v_8.ownBlock, some b_1]) n W_ t_12.1 hF_79 et_44) ?_)
    rintro _ w_84 ⟨v_81, rfl, R_82, hb_83⟩; refine ⟨_, rfl, ?_⟩
    replace R_82 := RepV.back R_82 W
    clear S; intro a S
    refine wpList_nil ?_
    exact RPost.mk_ S rfl S0 R_82 (hR.below _ _ (hb_83))
   refine RunAll.cons (isI .i64 x_24) [] rfl rfl ?_ ?_
   ·intro W_ hW
    have S1 := S
    exact RPost.one (v := .int .i64 x_24) S1 tys tys_ok rfl (by kernel_rfl) S.defers ⟨rfl, (ckI_some ex_24).2.1⟩ (hR.below _ _ (Below.refl _ _))
   refine RunAll.cons (isRep (.sl (.int .u8)) (Kx K w.heap.size [v_8.ownBlock, some b_1]) t_49) [(isI .i64 x_24, 37)] rfl rfl ?_ ?_
   ·intro W_ hW
    have S1 := S
    rintro _ ⟨rfl, hF_85⟩
    replace S1 := S1.put (by decide : 37 < 86) (.int .i64 x_24)
    refine fill_nil S1 ?_; clear S1; intro a_ S1
    replace W := W.mk_ hW
    have S0 := S.defers; replace S := S1; clear S1
    refine w_go S rfl (op_call (vs := [.int .i64 x_24]) S rfl cb23 rfl rfl rfl (c23 (Kx K w.heap.size [v_8.ownBlock, some b_1]) n W_ x_24 hF_85 et_49) ?_)
    rintro _ w_90 ⟨v_87, rfl, R_88, hb_89⟩; refine ⟨_, rfl, ?_⟩
    replace R_88 := RepV.back R_88 W
    clear S; intro a S
    refine wpList_nil ?_
    exact RPost.mk_ S rfl S0 R_88 (hR.below _ _ (hb_89))
   exact trivial
  intro w_91 hb_92
  refine EndE.some_ rfl ?_
  intro v_94 hF_93; replace hF_93 : RepV _ _ _ _ _ := hF_93
  replace S := S.put (by decide : 28 < 86) (v_94)
  refine EndE.some_ rfl ?_
  intro v_96 hF_95; replace hF_95 : RepV _ _ _ _ _ := hF_95
  replace S := S.put (by decide : 29 < 86) (v_96)
  refine EndE.some_ rfl ?_
  intro v_98 hF_97; replace hF_97 : RepV _ _ _ _ _ := hF_97
  replace S := S.put (by decide : 30 < 86) (v_98)
  refine EndE.some_ rfl ?_
  intro v_100 hF_99; obtain rfl : .pointer (some ((⟨b_1, 0, .none⟩ : Addr).add (coff gf0 0))) = v_100 := Eq.symm hF_99
  replace S := S.put (by decide : 31 < 86) (.pointer (some ((⟨b_1, 0, .none⟩ : Addr).add (coff gf0 0))))
  refine EndE.some_ rfl ?_
  rintro _ ⟨rfl, hF_101⟩
  replace S := S.put (by decide : 32 < 86) (.int .u16 x0.1)
  refine EndE.some_ rfl ?_
  rintro _ ⟨rfl, hF_103⟩
  replace S := S.put (by decide : 33 < 86) (.int .i64 x0.1)
  refine EndE.some_ rfl ?_
  intro v_106 hF_105; replace hF_105 : RepV _ _ _ _ _ := hF_105
  replace S := S.put (by decide : 34 < 86) (v_106)
  refine EndE.some_ rfl ?_
  rintro _ ⟨rfl, hF_107⟩
  replace S := S.put (by decide : 35 < 86) (.int .i64 t_12.1)
  refine EndE.some_ rfl ?_
  intro v_110 hF_109; replace hF_109 : RepV _ _ _ _ _ := hF_109
  replace S := S.put (by decide : 36 < 86) (v_110)
  refine EndE.some_ rfl ?_
  rintro _ ⟨rfl, hF_111⟩
  replace S := S.put (by decide : 37 < 86) (.int .i64 x_24)
  refine EndE.some_ rfl ?_
  intro v_114 hF_113; replace hF_113 : RepV _ _ _ _ _ := hF_113
  replace S := S.put (by decide : 38 < 86) (v_114)
  refine endE_nil S ?_; clear S; intro a S
  replace B_2 := B_2.mk_ hb_92 (by simp)
  replace W := W.mk_ hb_92
  refine w_go S rfl (op_buildSlice (K := K) (e := (.sl (.int .u8))) (vs := [v_96, v_98, v_106, v_110, v_114]) (xs := [(⟨[78, 67, 77, 72], some 4⟩ : Sl (Int)), t_32, t_39, t_44, t_49]) S W rfl ty23 rfl rfl (by kernel_rfl) rfl rfl rfl rfl rfl ⟨hF_95, hF_97, hF_105, hF_109, hF_113, trivial⟩ ?_)
  clear S; intro a w_118 v_115 hb_117 R_116 S
  replace hF_93 := hF_93.step hb_117
  replace hF_95 := hF_95.step hb_117
  replace hF_97 := hF_97.step hb_117
  replace hF_105 := hF_105.step hb_117
  replace hF_109 := hF_109.step hb_117
  replace hF_113 := hF_113.step hb_117
  replace B_2 := B_2.step hb_117
  replace W := W.step hb_117
  obtain ⟨t_119, et_119, h⟩ := bindS h
  refine w_go S rfl (op_call (vs := [v_115]) S rfl cb22 rfl rfl rfl (c22 (Kx K w.heap.size [v_8.ownBlock, some b_1]) n w_118 (⟨[(⟨[78, 67, 77, 72], some 4⟩ : Sl (Int)), t_32, t_39, t_44, t_49], some 5⟩ : Sl (Sl (Int))) _ R_116 et_119) ?_)
  rintro _ w_123 ⟨v_120, rfl, R_121, hb_122⟩; refine ⟨_, rfl, ?_⟩
  have NO_ := newO_of R_121 (Nat.le_refl _) hb_122
  replace R_121 := Ow.backO R_121 W
  clear S; intro a S
  replace hF_93 := hF_93.newO NO_
  replace hF_95 := hF_95.newO NO_
  replace hF_97 := hF_97.newO NO_
  replace hF_105 := hF_105.newO NO_
  replace hF_109 := hF_109.newO NO_
  replace hF_113 := hF_113.newO NO_
  replace R_116 := R_116.newO NO_
  replace B_2 := B_2.newO NO_
  replace W := W.newO NO_
  clear NO_
  refine wl_pureK (l' := [(7, v_120), (1, pB b_1)]) S tys tys_ok 1 [7, 1] (by kernel_rfl) ?_
  clear S; intro a S
  refine wpList_nil ?_
  refine then_n ?_
  refine wp_seq ?_
  refine wp_region_lit ?_
  refine w_go S rfl (op_buildSlice (K := NoK) (e := (.int .u8)) (vs := [.int .u8 78, .int .u8 67, .int .u8 77, .int .u8 48]) (xs := [78, 67, 77, 48]) S W rfl ty28 rfl rfl (by kernel_rfl) rfl rfl rfl rfl rfl ⟨(RepV.mkInt (by decide)), (RepV.mkInt (by decide)), (RepV.mkInt (by decide)), (RepV.mkInt (by decide)), trivial⟩ ?_)
  clear S; intro a w_127 v_124 hb_126 R_125 S
  replace B_2 := B_2.step hb_126
  replace R_121 := R_121.step hb_126
  replace W := W.step hb_126
  refine w_go S rfl (op_mark S W rfl ty28 rfl rfl rfl (by rfl) R_125 ?_)
  clear S; intro a w_129 hm_130 R_128 S
  replace B_2 := B_2.mk_ hm_130 (by simp)
  replace R_121 := R_121.mk_ hm_130 0 rfl
  replace W := W.mk_ hm_130
  replace R_128 : RepV _ _ (Kx K w.heap.size [v_120.ownBlock, v_8.ownBlock, some b_1]) _ _ := RepV.weak R_128
  refine wl_pure (l' := [(43, .pointer (some ((⟨b_1, 0, .none⟩ : Addr).add (coff gf0 1)))), (42, v_124), (41, v_124), (7, v_120), (1, pB b_1)]) S tys tys_ok 1 (by kernel_rfl) ?_
  clear S; intro a S
  refine w_go S rfl (op_load (t := (.sl (.sl (.int .u8)))) (x := x0.2) S rfl ty23 rfl rfl rfl (RepAt.add 1 (RepAt.st (t := gf0) B_2.at_)) ?_)
  clear S; intro a v_131 R_132 S
  refine w_go S rfl (op_len (K := _) S rfl ty23 rfl rfl rfl R_132 ?_)
  clear S; intro a G_133 S
  obtain ⟨x_134, ex_134, h⟩ := bindS h
  refine w_go S rfl (op_arith S .i64 (4 * (lenI x0.2)) rfl (.inr (.inr rfl)) rfl rfl rfl rfl ex_134 ?_)
  clear S; intro a S
  obtain ⟨x_135, ex_135, h⟩ := bindS h
  refine w_go S rfl (op_arith S .i64 (12 + x_134) rfl (.inl rfl) rfl rfl rfl rfl ex_135 ?_)
  clear S; intro a S
  obtain ⟨t_136, et_136, h⟩ := bindS h
  refine w_go S rfl (op_call (vs := [.int .i64 x_135]) S rfl cb23 rfl rfl rfl (c23 (Kx K w.heap.size [v_120.ownBlock, v_8.ownBlock, some b_1]) n w_129 x_135 (ckI_some ex_135).2.1 et_136) ?_)
  rintro _ w_140 ⟨v_137, rfl, R_138, hb_139⟩; refine ⟨_, rfl, ?_⟩
  replace R_138 := RepV.back R_138 W
  clear S; intro a S
  replace R_128 := R_128.step hb_139
  replace R_132 := R_132.step hb_139
  replace B_2 := B_2.step hb_139
  replace R_121 := R_121.step hb_139
  replace W := W.step hb_139
  obtain ⟨t_141, et_141, h⟩ := bindS h
  refine w_go S rfl (op_call (vs := [.int .i64 0]) S rfl cb23 rfl rfl rfl (c23 (Kx K w.heap.size [v_120.ownBlock, v_8.ownBlock, some b_1]) n w_140 0 (by decide) et_141) ?_)
  rintro _ w_145 ⟨v_142, rfl, R_143, hb_144⟩; refine ⟨_, rfl, ?_⟩
  replace R_143 := RepV.back R_143 W
  clear S; intro a S
  replace R_128 := R_128.step hb_144
  replace R_132 := R_132.step hb_144
  replace R_138 := R_138.step hb_144
  replace B_2 := B_2.step hb_144
  replace R_121 := R_121.step hb_144
  replace W := W.step hb_144
  refine w_go S rfl (op_buildSlice (K := K) (e := (.sl (.int .u8))) (vs := [v_124, v_137, v_142]) (xs := [(⟨[78, 67, 77, 48], some 4⟩ : Sl (Int)), t_136, t_141]) S W rfl ty23 rfl rfl (by kernel_rfl) rfl rfl rfl rfl rfl ⟨R_128, R_138, R_143, trivial⟩ ?_)
  clear S; intro a w_149 v_146 hb_148 R_147 S
  replace R_128 := R_128.step hb_148
  replace R_132 := R_132.step hb_148
  replace R_138 := R_138.step hb_148
  replace R_143 := R_143.step hb_148
  replace B_2 := B_2.step hb_148
  replace R_121 := R_121.step hb_148
  replace W := W.step hb_148
  obtain ⟨t_150, et_150, h⟩ := bindS h
  refine w_go S rfl (op_call (vs := [v_146]) S rfl cb22 rfl rfl rfl (c22 (Kx K w.heap.size [v_120.ownBlock, v_8.ownBlock, some b_1]) n w_149 (⟨[(⟨[78, 67, 77, 48], some 4⟩ : Sl (Int)), t_136, t_141], some 3⟩ : Sl (Sl (Int))) _ R_147 et_150) ?_)
  rintro _ w_154 ⟨v_151, rfl, R_152, hb_153⟩; refine ⟨_, rfl, ?_⟩
  have NO_ := newO_of R_152 (Nat.le_refl _) hb_153
  replace R_152 := Ow.backO R_152 W
  clear S; intro a S
  replace R_128 := R_128.newO NO_
  replace R_132 := R_132.newO NO_
  replace R_138 := R_138.newO NO_
  replace R_143 := R_143.newO NO_
  replace R_147 := R_147.newO NO_
  replace B_2 := B_2.newO NO_
  replace R_121 := R_121.newO NO_
  replace W := W.newO NO_
  clear NO_
  refine wl_pureK (l' := [(8, v_151), (7, v_120), (1, pB b_1)]) S tys tys_ok 1 [8, 7, 1] (by kernel_rfl) ?_
  clear S; intro a S
  refine wpList_nil ?_
  refine then_n ?_
  refine wp_seq ?_
  refine wp_seq ?_
  refine wp_region_lit ?_
  refine wl_pure (l' := [(52, .pointer (some ((⟨b_1, 0, .none⟩ : Addr).add (coff gf0 1)))), (8, v_151), (7, v_120), (1, pB b_1)]) S tys tys_ok 1 (by kernel_rfl) ?_
  clear S; intro a S
  refine w_go S rfl (op_load (t := (.sl (.sl (.int .u8)))) (x := x0.2) S rfl ty23 rfl rfl rfl (RepAt.add 1 (RepAt.st (t := gf0) B_2.at_)) ?_)
  clear S; intro a v_155 R_156 S
  refine w_go S rfl (op_len (K := _) S rfl ty23 rfl rfl rfl R_156 ?_)
  clear S; intro a G_157 S
  refine wl_pure (l' := [(55, .int .i64 0), (54, .int .i64 (lenI x0.2)), (53, v_155), (52, .pointer (some ((⟨b_1, 0, .none⟩ : Addr).add (coff gf0 1)))), (8, v_151), (7, v_120), (1, pB b_1)]) S tys tys_ok 1 (by kernel_rfl) ?_
  clear S; intro a S
  refine wpList_nil ?_
  refine then_n ?_
  replace S := S.sub (l' := [(55, .int .i64 0), (54, .int .i64 (lenI x0.2)), (53, v_155), (8, v_151), (7, v_120)]) (by exact ⟨rfl, rfl, rfl, rfl, rfl, trivial⟩)
  obtain ⟨y_174, ey_174, h⟩ := bindS h
  refine wp_cut_ (fun a_ w_ => ∃ (v_175 : Value) (v_177 : Value), St 86 a_ [(7, v_175), (8, v_177)] ∧ Wd w w_ [v_177.ownBlock, v_175.ownBlock, v_8.ownBlock, some b_1] ∧ Bx gt0 25 w_ (Kx K w.heap.size [v_177.ownBlock, v_175.ownBlock, v_8.ownBlock, some b_1]) b_1 x0 ∧ Ow (.int .u8) 5 w_ w.heap.size (Kx K w.heap.size [v_177.ownBlock, v_175.ownBlock, v_8.ownBlock, some b_1]) v_175 y_174.1 .none ∧ Ow (.int .u8) 5 w_ w.heap.size (Kx K w.heap.size [v_177.ownBlock, v_175.ownBlock, v_8.ownBlock, some b_1]) v_177 y_174.2 .none) ?_ ?_
  ·refine wp_block ?_
   refine wp_loop_n (fun m_ a_ w_ => ∃ (c_158 : Int) (c_160 : List (Int)) (c_163 : List (Int)) , ∃ (v_161 : Value) (v_164 : Value), St 86 a_ [(55, .int .i64 c_158), (54, .int .i64 (lenI x0.2)), (53, v_155), (8, v_161), (7, v_164)] ∧ Wd w w_ [v_161.ownBlock, v_164.ownBlock, v_8.ownBlock, some b_1] ∧ InR .i64 c_158 ∧ RepV (.sl (.sl (.int .u8))) w_ (Kx K w.heap.size [v_161.ownBlock, v_164.ownBlock, v_8.ownBlock, some b_1]) v_155 x0.2 ∧ Bx gt0 25 w_ (Kx K w.heap.size [v_161.ownBlock, v_164.ownBlock, v_8.ownBlock, some b_1]) b_1 x0 ∧ Ow (.int .u8) 5 w_ w.heap.size (Kx K w.heap.size [v_161.ownBlock, v_164.ownBlock, v_8.ownBlock, some b_1]) v_161 c_160 .none ∧ Ow (.int .u8) 5 w_ w.heap.size (Kx K w.heap.size [v_161.ownBlock, v_164.ownBlock, v_8.ownBlock, some b_1]) v_164 c_163 .none ∧ p11_l1 n x0 m_ c_158 c_160 c_163 = some y_174) n ?_ ?_
   ·skip
    exact ⟨0, t_150.xs, t_119.xs, ⟨v_151, v_120, S.sub (by exact ⟨rfl, rfl, rfl, rfl, rfl, trivial⟩), W, (by decide), R_156, B_2, R_152.forget, R_121.forget, ey_174⟩⟩
   ·clear S W; rintro m_179 a w_181 ⟨c_158, c_160, c_163, v_161, v_164, S, W, G_159, R_156, B_2, O_162, O_165, hl_180⟩
    cases m_179 with
    | zero => exact absurd hl_180 (by simp [p11_l1])
    | succ m_179 =>
     refine ⟨m_179, rfl, ?_⟩
     rw [p11_l1] at hl_180
     refine wp_seq ?_
     refine wp_region_lit ?_
     refine wl_pure (l' := [(56, .bool (decide (c_158 < (lenI x0.2)))), (55, .int .i64 c_158), (54, .int .i64 (lenI x0.2)), (53, v_155), (8, v_161), (7, v_164)]) S tys tys_ok 1 (by kernel_rfl) ?_
     clear S; intro a S
     refine wpList_nil ?_
     refine then_n ?_
     refine wp_seq ?_
     refine wp_cond_split (S.eval (show ev _ _ = some (.bool (decide (c_158 < (lenI x0.2)))) from rfl)) ?_ ?_
     ·intro hc
      rw [if_pos hc] at hl_180
      refine wp_skip ?_
      refine then_n ?_
      replace S := S.sub (l' := [(55, .int .i64 c_158), (54, .int .i64 (lenI x0.2)), (53, v_155), (8, v_161), (7, v_164)]) (by exact ⟨rfl, rfl, rfl, rfl, rfl, trivial⟩)
      refine wp_seq ?_
      refine wp_block ?_
      refine wp_seq ?_
      refine wp_region_lit ?_
      obtain ⟨y_182, ey_182, hl_180⟩ := bindS hl_180
      refine w_go S rfl (op_indexAddr S rfl ty23 rfl rfl rfl R_156 rfl ey_182 ?_)
      clear S; intro a p_183 R_184 H_185 S
      refine w_go S rfl (op_load (t := (.sl (.int .u8))) (x := y_182) S rfl ty28 rfl rfl rfl R_184 ?_)
      clear S; intro a v_186 R_187 S
      refine wl_pure (l' := [(10, v_186), (58, v_186), (57, .pointer (some p_183)), (55, .int .i64 c_158), (54, .int .i64 (lenI x0.2)), (53, v_155), (8, v_161), (7, v_164)]) S tys tys_ok 1 (by kernel_rfl) ?_
      clear S; intro a S
      refine wpList_nil ?_
      refine then_n ?_
      replace S := S.sub (l' := [(10, v_186), (55, .int .i64 c_158), (54, .int .i64 (lenI x0.2)), (53, v_155), (8, v_161), (7, v_164)]) (by exact ⟨rfl, rfl, rfl, rfl, rfl, rfl, trivial⟩)
      refine wp_seq ?_
      refine wp_region_lit ?_
      refine wl_pure (l' := [(60, v_164), (59, v_161), (10, v_186), (55, .int .i64 c_158), (54, .int .i64 (lenI x0.2)), (53, v_155), (8, v_161), (7, v_164)]) S tys tys_ok 2 (by kernel_rfl) ?_
      clear S; intro a S
      refine w_go S rfl (op_len (K := _) S rfl ty28 rfl rfl rfl O_165.read ?_)
      clear S; intro a G_188 S
      obtain ⟨t_189, et_189, hl_180⟩ := bindS hl_180
      refine w_go S rfl (op_call (vs := [.int .i64 (lenI (⟨c_163, .none⟩ : Sl (Int)))]) S rfl cb23 rfl rfl rfl (c23 (Kx K w.heap.size [v_161.ownBlock, v_164.ownBlock, v_8.ownBlock, some b_1]) n w_181 (lenI (⟨c_163, .none⟩ : Sl (Int))) G_188 et_189) ?_)
      rintro _ w_193 ⟨v_190, rfl, R_191, hb_192⟩; refine ⟨_, rfl, ?_⟩
      replace R_191 := RepV.back R_191 W
      clear S; intro a S
      replace R_187 := R_187.step hb_192
      replace R_156 := R_156.step hb_192
      replace B_2 := B_2.step hb_192
      replace O_162 := O_162.step hb_192
      replace O_165 := O_165.step hb_192
      replace W := W.step hb_192
      refine wl_pure (l' := [(63, v_186), (62, v_190), (61, .int .i64 (lenI (⟨c_163, .none⟩ : Sl (Int)))), (60, v_164), (59, v_161), (10, v_186), (55, .int .i64 c_158), (54, .int .i64 (lenI x0.2)), (53, v_155), (8, v_161), (7, v_164)]) S tys tys_ok 1 (by kernel_rfl) ?_
      clear S; intro a S
      refine w_go S rfl (op_len (K := _) S rfl ty28 rfl rfl rfl R_187 ?_)
      clear S; intro a G_194 S
      obtain ⟨t_195, et_195, hl_180⟩ := bindS hl_180
      refine w_go S rfl (op_call (vs := [.int .i64 (lenI y_182)]) S rfl cb23 rfl rfl rfl (c23 (Kx K w.heap.size [v_161.ownBlock, v_164.ownBlock, v_8.ownBlock, some b_1]) n w_193 (lenI y_182) G_194 et_195) ?_)
      rintro _ w_199 ⟨v_196, rfl, R_197, hb_198⟩; refine ⟨_, rfl, ?_⟩
      replace R_197 := RepV.back R_197 W
      clear S; intro a S
      replace R_187 := R_187.step hb_198
      replace R_156 := R_156.step hb_198
      replace R_191 := R_191.step hb_198
      replace B_2 := B_2.step hb_198
      replace O_162 := O_162.step hb_198
      replace O_165 := O_165.step hb_198
      replace W := W.step hb_198
      have R_200 : RepV (.sl (.int .u8)) w_199 (Kx K w.heap.size [v_164.ownBlock, v_8.ownBlock, some b_1]) v_161 (⟨c_160, .none⟩ : Sl (Int)) := O_162.pubAt W 0 rfl
      replace R_187 : RepV (.sl (.int .u8)) w_199 (Kx K w.heap.size [v_164.ownBlock, v_8.ownBlock, some b_1]) v_186 y_182 := R_187.lessAt 0
      replace R_156 : RepV (.sl (.sl (.int .u8))) w_199 (Kx K w.heap.size [v_164.ownBlock, v_8.ownBlock, some b_1]) v_155 x0.2 := R_156.lessAt 0
      replace R_191 : RepV (.sl (.int .u8)) w_199 (Kx K w.heap.size [v_164.ownBlock, v_8.ownBlock, some b_1]) v_190 t_189 := R_191.lessAt 0
      replace R_197 : RepV (.sl (.int .u8)) w_199 (Kx K w.heap.size [v_164.ownBlock, v_8.ownBlock, some b_1]) v_196 t_195 := R_197.lessAt 0
      replace B_2 : Bx gt0 25 w_199 (Kx K w.heap.size [v_164.ownBlock, v_8.ownBlock, some b_1]) b_1 x0 := B_2.lessAt 0
      replace O_165 : Ow (.int .u8) 5 w_199 w.heap.size (Kx K w.heap.size [v_164.ownBlock, v_8.ownBlock, some b_1]) v_164 c_163 .none := O_165.lessAt 0
      replace W : Wd w w_199 [v_164.ownBlock, v_8.ownBlock, some b_1] := W.lessAt 0
      refine w_go S rfl (op_buildSlice (K := K) (e := (.sl (.int .u8))) (vs := [v_161, v_190, v_196]) (xs := [(⟨c_160, .none⟩ : Sl (Int)), t_189, t_195]) S W rfl ty23 rfl rfl (by kernel_rfl) rfl rfl rfl rfl rfl ⟨R_200, R_191, R_197, trivial⟩ ?_)
      clear S; intro a w_204 v_201 hb_203 R_202 S
      replace R_187 := R_187.step hb_203
      replace R_156 := R_156.step hb_203
      replace R_200 := R_200.step hb_203
      replace R_191 := R_191.step hb_203
      replace R_197 := R_197.step hb_203
      replace B_2 := B_2.step hb_203
      replace O_165 := O_165.step hb_203
      replace W := W.step hb_203
      obtain ⟨t_205, et_205, hl_180⟩ := bindS hl_180
      refine w_go S rfl (op_call (vs := [v_201]) S rfl cb22 rfl rfl rfl (c22 (Kx K w.heap.size [v_164.ownBlock, v_8.ownBlock, some b_1]) n w_204 (⟨[(⟨c_160, .none⟩ : Sl (Int)), t_189, t_195], some 3⟩ : Sl (Sl (Int))) _ R_202 et_205) ?_)
      rintro _ w_209 ⟨v_206, rfl, R_207, hb_208⟩; refine ⟨_, rfl, ?_⟩
      have NO_ := newO_of R_207 (Nat.le_refl _) hb_208
      replace R_207 := Ow.backO R_207 W
      clear S; intro a S
      replace R_187 := R_187.newO NO_
      replace R_156 := R_156.newO NO_
      replace R_200 := R_200.newO NO_
      replace R_191 := R_191.newO NO_
      replace R_197 := R_197.newO NO_
      replace R_202 := R_202.newO NO_
      replace B_2 := B_2.newO NO_
      replace O_165 := O_165.newO NO_
      replace W := W.newO NO_
      clear NO_
      refine wl_pureK (l' := [(8, v_206), (10, v_186), (55, .int .i64 c_158), (54, .int .i64 (lenI x0.2)), (53, v_155), (8, v_161), (7, v_164)]) S tys tys_ok 1 [8, 10, 55, 54, 53, 7] (by kernel_rfl) ?_
      clear S; intro a S
      refine wpList_nil ?_
      refine then_n ?_
      refine wp_seq ?_
      refine wp_region_lit ?_
      refine wl_pure (l' := [(69, v_186), (68, v_164), (8, v_206), (10, v_186), (55, .int .i64 c_158), (54, .int .i64 (lenI x0.2)), (53, v_155), (8, v_161), (7, v_164)]) S tys tys_ok 2 (by kernel_rfl) ?_
      clear S; intro a S
      obtain ⟨l_210, el_210, hl_180⟩ := bindS hl_180
      refine w_go S rfl (op_append S W (E := 5) 1 rfl ty28 un28 by28 rfl rfl rfl rfl O_165 rfl R_187 el_210 ?_)
      clear S; intro a w_212 v_211 A_213 O_214 S
      replace R_187 : RepV (.sl (.int .u8)) w_212 (Kx K w.heap.size [v_206.ownBlock, v_211.ownBlock, v_8.ownBlock, some b_1]) v_186 y_182 := R_187.apd A_213 (i := 1) rfl
      replace R_156 : RepV (.sl (.sl (.int .u8))) w_212 (Kx K w.heap.size [v_206.ownBlock, v_211.ownBlock, v_8.ownBlock, some b_1]) v_155 x0.2 := R_156.apd A_213 (i := 1) rfl
      replace B_2 : Bx gt0 25 w_212 (Kx K w.heap.size [v_206.ownBlock, v_211.ownBlock, v_8.ownBlock, some b_1]) b_1 x0 := B_2.apd W A_213 (i := 1) rfl (j := 3) rfl (by decide)
      replace R_207 : Ow (.int .u8) 5 w_212 w.heap.size (Kx K w.heap.size [v_206.ownBlock, v_211.ownBlock, v_8.ownBlock, some b_1]) v_206 t_205.xs t_205.cap := R_207.apd W A_213 (i := 1) rfl (j := 0) rfl (by decide)
      replace W : Wd w w_212 [v_206.ownBlock, v_211.ownBlock, v_8.ownBlock, some b_1] := W.apd A_213 (i := 1) rfl
      replace O_214 : Ow (.int .u8) 5 w_212 w.heap.size (Kx K w.heap.size [v_206.ownBlock, v_211.ownBlock, v_8.ownBlock, some b_1]) v_211 l_210 (capA .none l_210.length) := O_214
      refine wl_pureK (l' := [(7, v_211), (8, v_206), (55, .int .i64 c_158), (54, .int .i64 (lenI x0.2)), (53, v_155), (8, v_161), (7, v_164)]) S tys tys_ok 1 [7, 8, 55, 54, 53] (by kernel_rfl) ?_
      clear S; intro a S
      refine wpList_nil ?_
      refine then_n ?_
      refine wp_region_lit ?_
      refine wl_pure (l' := [(72, v_211), (71, v_211), (7, v_211), (8, v_206), (55, .int .i64 c_158), (54, .int .i64 (lenI x0.2)), (53, v_155), (8, v_161), (7, v_164)]) S tys tys_ok 2 (by kernel_rfl) ?_
      clear S; intro a S
      refine w_go S rfl (op_len (K := _) S rfl ty28 rfl rfl rfl O_214.read ?_)
      clear S; intro a G_215 S
      obtain ⟨t_216, et_216, hl_180⟩ := bindS hl_180
      refine w_go S rfl (op_call (vs := [.int .i64 (lenI (⟨l_210, capA .none l_210.length⟩ : Sl (Int)))]) S rfl cb20 rfl rfl rfl (c20 (Kx K w.heap.size [v_206.ownBlock, v_211.ownBlock, v_8.ownBlock, some b_1]) n w_212 (lenI (⟨l_210, capA .none l_210.length⟩ : Sl (Int))) G_215 et_216) ?_)
      rintro _ w_220 ⟨v_217, rfl, R_218, hb_219⟩; refine ⟨_, rfl, ?_⟩
      replace R_218 := RepV.back R_218 W
      clear S; intro a S
      replace R_156 := R_156.step hb_219
      replace B_2 := B_2.step hb_219
      replace R_207 := R_207.step hb_219
      replace O_214 := O_214.step hb_219
      replace W := W.step hb_219
      obtain ⟨rfl, GR_218⟩ := RepV.int R_218
      refine wl_pure (l' := [(75, v_211), (74, .int .i64 t_216), (73, .int .i64 (lenI (⟨l_210, capA .none l_210.length⟩ : Sl (Int)))), (72, v_211), (71, v_211), (7, v_211), (8, v_206), (55, .int .i64 c_158), (54, .int .i64 (lenI x0.2)), (53, v_155), (8, v_161), (7, v_164)]) S tys tys_ok 1 (by kernel_rfl) ?_
      clear S; intro a S
      refine w_go S rfl (op_len (K := _) S rfl ty28 rfl rfl rfl O_214.read ?_)
      clear S; intro a G_221 S
      obtain ⟨x_222, ex_222, hl_180⟩ := bindS hl_180
      refine w_go S rfl (op_arith S .i64 (t_216 - (lenI (⟨l_210, capA .none l_210.length⟩ : Sl (Int)))) rfl (.inr (.inl rfl)) rfl rfl rfl rfl ex_222 ?_)
      clear S; intro a S
      obtain ⟨l_223, el_223, hl_180⟩ := bindS hl_180
      refine w_go S rfl (op_append_int (e := (.int .u8)) S W (E := 5) (z0 := 0) 1 _ rfl ty28 ty3 un28 by28 z5 (fun w K => ⟨rfl, by decide⟩) rfl rfl rfl rfl O_214 rfl el_223 ?_)
      clear S; intro a w_225 v_224 A_226 O_227 S
      replace R_156 : RepV (.sl (.sl (.int .u8))) w_225 (Kx K w.heap.size [v_206.ownBlock, v_224.ownBlock, v_8.ownBlock, some b_1]) v_155 x0.2 := R_156.apd A_226 (i := 1) rfl
      replace B_2 : Bx gt0 25 w_225 (Kx K w.heap.size [v_206.ownBlock, v_224.ownBlock, v_8.ownBlock, some b_1]) b_1 x0 := B_2.apd W A_226 (i := 1) rfl (j := 3) rfl (by decide)
      replace R_207 : Ow (.int .u8) 5 w_225 w.heap.size (Kx K w.heap.size [v_206.ownBlock, v_224.ownBlock, v_8.ownBlock, some b_1]) v_206 t_205.xs t_205.cap := R_207.apd W A_226 (i := 1) rfl (j := 0) rfl (by decide)
      replace W : Wd w w_225 [v_206.ownBlock, v_224.ownBlock, v_8.ownBlock, some b_1] := W.apd A_226 (i := 1) rfl
      replace O_227 : Ow (.int .u8) 5 w_225 w.heap.size (Kx K w.heap.size [v_206.ownBlock, v_224.ownBlock, v_8.ownBlock, some b_1]) v_224 l_223 (capA (capA .none l_210.length) l_223.length) := O_227
      refine wl_pureK (l' := [(7, v_224), (7, v_211), (8, v_206), (55, .int .i64 c_158), (54, .int .i64 (lenI x0.2)), (53, v_155), (8, v_161), (7, v_164)]) S tys tys_ok 1 [7, 8, 55, 54, 53] (by kernel_rfl) ?_
      clear S; intro a S
      refine wpList_nil ?_
      refine blk_n ?_
      refine then_n ?_
      refine wp_region_lit ?_
      obtain ⟨x_228, ex_228, hl_180⟩ := bindS hl_180
      refine w_go S rfl (op_arith S .i64 (c_158 + 1) rfl (.inl rfl) rfl rfl rfl rfl ex_228 ?_)
      clear S; intro a S
      refine wl_pure (l' := [(55, .int .i64 x_228), (79, .int .i64 x_228), (7, v_224), (7, v_211), (8, v_206), (55, .int .i64 c_158), (54, .int .i64 (lenI x0.2)), (53, v_155), (8, v_161), (7, v_164)]) S tys tys_ok 1 (by kernel_rfl) ?_
      clear S; intro a S
      refine wpList_nil ?_
      refine then_n ?_
      exact ⟨x_228, t_205.xs, l_223, ⟨v_206, v_224, S.sub (by exact ⟨rfl, rfl, rfl, rfl, rfl, trivial⟩), W, (ckI_some ex_228).2.1, R_156, B_2, R_207.forget, O_227.forget, hl_180⟩⟩
     ·intro hc
      rw [if_neg (Bool.eq_false_iff.1 hc)] at hl_180
      refine wp_exit ?_
      refine then_x ?_
      refine then_x ?_
      refine blk_hit ?_
      refine then_n ?_
      obtain rfl := Option.some.inj hl_180
      exact ⟨v_164, v_161, S.sub (by exact ⟨rfl, rfl, trivial⟩), W, B_2, O_165, O_162⟩
  clear S W; rintro a w_229 ⟨v_175, v_177, S, W, B_2, O_176, O_178⟩
  refine then_n ?_
  refine wp_seq ?_
  refine wp_region_lit ?_
  refine wl_pure (l' := [(81, v_177), (80, v_175), (7, v_175), (8, v_177)]) S tys tys_ok 2 (by kernel_rfl) ?_
  clear S; intro a S
  obtain ⟨m_230, em_230, h⟩ := bindS h
  refine w_go S rfl (op_make (K := K) (e := (.int .u8)) (z0 := 0) S W _ rfl ty28 un28 by28 z5 (fun w K => ⟨rfl, by decide⟩) rfl rfl rfl rfl em_230 ?_)
  clear S; intro a w_232 b_231 hb_233 O_234 S
  replace B_2 := B_2.box hb_233
  replace O_176 := O_176.box hb_233
  replace O_178 := O_178.box hb_233
  replace W := W.box hb_233
  replace O_234 : Ow (.int .u8) 5 w_232 w.heap.size (Kx K w.heap.size [some b_231, v_177.ownBlock, v_175.ownBlock, v_8.ownBlock, some b_1]) (.slice (some ⟨b_231, 0, .none⟩) m_230.1 m_230.2) (List.replicate m_230.1 (0 : Int)) (some m_230.2) := O_234
  have R_235 : RepV (.sl (.int .u8)) w_232 (Kx K w.heap.size [some b_231, v_177.ownBlock, v_8.ownBlock, some b_1]) v_175 (⟨y_174.1, .none⟩ : Sl (Int)) := O_176.pubAt W 2 rfl
  replace B_2 : Bx gt0 25 w_232 (Kx K w.heap.size [some b_231, v_177.ownBlock, v_8.ownBlock, some b_1]) b_1 x0 := B_2.lessAt 2
  replace O_178 : Ow (.int .u8) 5 w_232 w.heap.size (Kx K w.heap.size [some b_231, v_177.ownBlock, v_8.ownBlock, some b_1]) v_177 y_174.2 .none := O_178.lessAt 2
  replace O_234 : Ow (.int .u8) 5 w_232 w.heap.size (Kx K w.heap.size [some b_231, v_177.ownBlock, v_8.ownBlock, some b_1]) (.slice (some ⟨b_231, 0, .none⟩) m_230.1 m_230.2) (List.replicate m_230.1 (0 : Int)) (some m_230.2) := O_234.lessAt 2
  replace W : Wd w w_232 [some b_231, v_177.ownBlock, v_8.ownBlock, some b_1] := W.lessAt 2
  have R_236 : RepV (.sl (.int .u8)) w_232 (Kx K w.heap.size [some b_231, v_8.ownBlock, some b_1]) v_177 (⟨y_174.2, .none⟩ : Sl (Int)) := O_178.pubAt W 1 rfl
  replace R_235 : RepV (.sl (.int .u8)) w_232 (Kx K w.heap.size [some b_231, v_8.ownBlock, some b_1]) v_175 (⟨y_174.1, .none⟩ : Sl (Int)) := R_235.lessAt 1
  replace B_2 : Bx gt0 25 w_232 (Kx K w.heap.size [some b_231, v_8.ownBlock, some b_1]) b_1 x0 := B_2.lessAt 1
  replace O_234 : Ow (.int .u8) 5 w_232 w.heap.size (Kx K w.heap.size [some b_231, v_8.ownBlock, some b_1]) (.slice (some ⟨b_231, 0, .none⟩) m_230.1 m_230.2) (List.replicate m_230.1 (0 : Int)) (some m_230.2) := O_234.lessAt 1
  replace W : Wd w w_232 [some b_231, v_8.ownBlock, some b_1] := W.lessAt 1
  have R_237 : RepV (.sl (.int .u8)) w_232 (Kx K w.heap.size [v_8.ownBlock, some b_1]) (.slice (some ⟨b_231, 0, .none⟩) m_230.1 m_230.2) (⟨(List.replicate m_230.1 (0 : Int)), some m_230.2⟩ : Sl (Int)) := O_234.pubAt W 0 rfl
  replace R_235 : RepV (.sl (.int .u8)) w_232 (Kx K w.heap.size [v_8.ownBlock, some b_1]) v_175 (⟨y_174.1, .none⟩ : Sl (Int)) := R_235.lessAt 0
  replace R_236 : RepV (.sl (.int .u8)) w_232 (Kx K w.heap.size [v_8.ownBlock, some b_1]) v_177 (⟨y_174.2, .none⟩ : Sl (Int)) := R_236.lessAt 0
  replace B_2 : Bx gt0 25 w_232 (Kx K w.heap.size [v_8.ownBlock, some b_1]) b_1 x0 := B_2.lessAt 0
  replace W : Wd w w_232 [v_8.ownBlock, some b_1] := W.lessAt 0
  refine w_go S rfl (op_buildSlice (K := K) (e := (.sl (.int .u8))) (vs := [v_175, v_177, (.slice (some ⟨b_231, 0, .none⟩) m_230.1 m_230.2)]) (xs := [(⟨y_174.1, .none⟩ : Sl (Int)), (⟨y_174.2, .none⟩ : Sl (Int)), (⟨(List.replicate m_230.1 (0 : Int)), some m_230.2⟩ : Sl (Int))]) S W rfl ty23 rfl rfl (by kernel_rfl) rfl rfl rfl rfl rfl ⟨R_235, R_236, R_237, trivial⟩ ?_)
  clear S; intro a w_241 v_238 hb_240 R_239 S
  replace R_235 := R_235.step hb_240
  replace R_236 := R_236.step hb_240
  replace R_237 := R_237.step hb_240
  replace B_2 := B_2.step hb_240
  replace W := W.step hb_240
  obtain ⟨t_242, et_242, h⟩ := bindS h
  refine w_go S rfl (op_call (vs := [v_238]) S rfl cb22 rfl rfl rfl (c22 (Kx K w.heap.size [v_8.ownBlock, some b_1]) n w_241 (⟨[(⟨y_174.1, .none⟩ : Sl (Int)), (⟨y_174.2, .none⟩ : Sl (Int)), (⟨(List.replicate m_230.1 (0 : Int)), some m_230.2⟩ : Sl (Int))], some 3⟩ : Sl (Sl (Int))) _ R_239 et_242) ?_)
  rintro _ w_246 ⟨v_243, rfl, R_244, hb_245⟩; refine ⟨_, rfl, ?_⟩
  have NO_ := newO_of R_244 (Nat.le_refl _) hb_245
  replace R_244 := Ow.backO R_244 W
  clear S; intro a S
  replace R_235 := R_235.newO NO_
  replace R_236 := R_236.newO NO_
  replace R_237 := R_237.newO NO_
  replace R_239 := R_239.newO NO_
  replace B_2 := B_2.newO NO_
  replace W := W.newO NO_
  clear NO_
  have R_247 : RepV (.sl (.int .u8)) w_246 (Kx K w.heap.size [v_8.ownBlock, some b_1]) v_243 (⟨t_242.xs, t_242.cap⟩ : Sl (Int)) := R_244.pubAt W 0 rfl
  replace R_235 : RepV (.sl (.int .u8)) w_246 (Kx K w.heap.size [v_8.ownBlock, some b_1]) v_175 (⟨y_174.1, .none⟩ : Sl (Int)) := R_235.lessAt 0
  replace R_236 : RepV (.sl (.int .u8)) w_246 (Kx K w.heap.size [v_8.ownBlock, some b_1]) v_177 (⟨y_174.2, .none⟩ : Sl (Int)) := R_236.lessAt 0
  replace R_237 : RepV (.sl (.int .u8)) w_246 (Kx K w.heap.size [v_8.ownBlock, some b_1]) (.slice (some ⟨b_231, 0, .none⟩) m_230.1 m_230.2) (⟨(List.replicate m_230.1 (0 : Int)), some m_230.2⟩ : Sl (Int)) := R_237.lessAt 0
  replace R_239 : RepV (.sl (.sl (.int .u8))) w_246 (Kx K w.heap.size [v_8.ownBlock, some b_1]) v_238 (⟨[(⟨y_174.1, .none⟩ : Sl (Int)), (⟨y_174.2, .none⟩ : Sl (Int)), (⟨(List.replicate m_230.1 (0 : Int)), some m_230.2⟩ : Sl (Int))], some 3⟩ : Sl (Sl (Int))) := R_239.lessAt 0
  replace B_2 : Bx gt0 25 w_246 (Kx K w.heap.size [v_8.ownBlock, some b_1]) b_1 x0 := B_2.lessAt 0
  replace W : Wd w w_246 [v_8.ownBlock, some b_1] := W.lessAt 0
  obtain ⟨t_248, et_248, h⟩ := bindS h
  refine w_go S rfl (op_call (vs := [v_243]) S rfl cb24 rfl rfl rfl (c24 (Kx K w.heap.size [v_8.ownBlock, some b_1]) n w_246 (⟨t_242.xs, t_242.cap⟩ : Sl (Int)) _ R_247 et_248) ?_)
  rintro _ w_252 ⟨v_249, rfl, R_250, hb_251⟩; refine ⟨_, rfl, ?_⟩
  replace R_250 := RepV.back R_250 W
  clear S; intro a S
  replace R_235 := R_235.step hb_251
  replace R_236 := R_236.step hb_251
  replace R_237 := R_237.step hb_251
  replace R_239 := R_239.step hb_251
  replace R_247 := R_247.step hb_251
  replace B_2 := B_2.step hb_251
  replace W := W.step hb_251
  refine wl_pureK (l' := [(3, .int .i64 0), (2, v_249)]) S tys tys_ok 2 [3, 2] (by kernel_rfl) ?_
  clear S; intro a S
  refine wpList_nil ?_
  refine then_n ?_
  refine wp_ret ?_
  obtain rfl := Option.some.inj h
  exact b_ret2 S rfl rfl rfl ⟨_, _, rfl, R_250.out, (RepV.mkInt (by decide)), W.below⟩
set_option maxHeartbeats 4000000 in
set_option maxRecDepth 100000 in
/-- plugboard/networks.Encode -/
theorem c11_cut (K : Nat → Prop) (n : Nat) (w : World) (x0 : Int × (Sl (Sl (Int)))) (v0 : Value) (R0 : RepV gt0 w K v0 x0) {r : (Sl (Int)) × (Int)} (h : p11 n x0 = some r) :
  Calls Try.prog 11 #[v0] w (fun e_ w_ => ∃ v0_ v1_ : Value, e_ = .returned (.tuple #[(cutV v0_), v1_]) ∧ Ow (.int .u8) 5 w_ w.heap.size (Kx K w.heap.size [v0_.ownBlock]) v0_ r.1.xs .none ∧ RepV (.int .i64) w_ (Kx K w.heap.size [v0_.ownBlock]) v1_ r.2 ∧ Below w.heap.size w w_) := by
 refine enter (args := [v0]) Try.func11 rfl 86 rfl rfl fun a S => ?_
 have W := Wd.start w
 replace R0 := R0.arg
 unfold p11 at h
 replace S : St 86 a [(0, v0)] := S
 refine wp_seq ?_
 refine wp_region_lit ?_
 refine w_go S rfl (op_box S rfl rfl rfl rfl rfl R0 ?_)
 clear S; intro a w_3 b_1 hb_4 B_2 S
 replace R0 := R0.box hb_4
 replace W := W.box hb_4
 refine wl_pureK (l' := [(1, pB b_1)]) S tys tys_ok 2 [1] (by kernel_rfl) ?_
 clear S; intro a S
 refine wpList_nil ?_
 refine then_n ?_
 refine wp_seq ?_
 refine wp_region_lit ?_
 refine wl_pure (l' := [(12, .pointer (some ((⟨b_1, 0, .none⟩ : Addr).add (coff gf0 1)))), (1, pB b_1)]) S tys tys_ok 1 (by kernel_rfl) ?_
 clear S; intro a S
 refine w_go S rfl (op_load (t := (.sl (.sl (.int .u8)))) (x := x0.2) S rfl ty23 rfl rfl rfl (RepAt.add 1 (RepAt.st (t := gf0) B_2.at_)) ?_)
 clear S; intro a v_5 R_6 S
 obtain ⟨t_7, et_7, h⟩ := bindS h
 refine w_go S rfl (op_call (vs := [v_5]) S rfl cb21 rfl rfl rfl (c21 (Kx K w.heap.size [some b_1]) n w_3 x0.2 _ R_6 et_7) ?_)
 rintro _ w_11 ⟨v_8, rfl, R_9, hb_10⟩; refine ⟨_, rfl, ?_⟩
 have NO_ := newO_of R_9 (Nat.le_refl _) hb_10
 replace R_9 := Ow.backO R_9 W
 clear S; intro a S
 replace R_6 := R_6.newO NO_
 replace B_2 := B_2.newO NO_
 replace W := W.newO NO_
 clear NO_
 obtain ⟨t_12, et_12, h⟩ := bindS h
 refine w_go S rfl (op_call (vs := [v_8]) S rfl cb10 rfl rfl rfl (c10 (Kx K w.heap.size []) n w_11 (⟨t_7.xs, t_7.cap⟩ : Sl (Int)) _ R_9.read et_12) ?_)
 rintro _ w_18 ⟨v_13, v_14, rfl, R_15, R_16, hb_17⟩; refine ⟨_, rfl, ?_⟩
 clear S; intro a S
 replace R_6 := R_6.step hb_17
 replace B_2 := B_2.step hb_17
 replace R_9 := R_9.step hb_17
 replace W := W.step hb_17
 obtain ⟨rfl, GR_15⟩ := RepV.int R_15
 obtain ⟨rfl, GR_16⟩ := RepV.int R_16
 refine wl_pureK (l' := [(5, .int .i64 t_12.2), (4, .int .i64 t_12.1), (1, pB b_1)]) S tys tys_ok 5 [5, 4, 1] (by kernel_rfl) ?_
 clear S; intro a S
 refine wpList_nil ?_
 refine then_n ?_
 refine wp_seq ?_
 refine wp_seq ?_
 refine wp_region_lit ?_
 refine wl_pure (l' := [(19, .bool (t_12.2 != 0)), (18, .int .i64 t_12.2), (5, .int .i64 t_12.2), (4, .int .i64 t_12.1), (1, pB b_1)]) S tys tys_ok 2 (by kernel_rfl) ?_
 clear S; intro a S
 refine wpList_nil ?_
 refine then_n ?_
 replace S := S.sub (l' := [(19, .bool (t_12.2 != 0)), (5, .int .i64 t_12.2), (4, .int .i64 t_12.1), (1, pB b_1)]) (by exact ⟨rfl, rfl, rfl, rfl, trivial⟩)
 refine wp_cond_split (S.eval (show ev _ _ = some (.bool (t_12.2 != 0)) from rfl)) ?_ ?_
 ·intro hc
  rw [if_pos hc] at h
  refine wp_seq ?_
  refine wp_region_lit ?_
  refine wl_pureK (l' := [(3, .int .i64 t_12.2), (2, .slice .none 0 0)]) S tys tys_ok 3 [3, 2] (by kernel_rfl) ?_
  clear S; intro a S
  refine wpList_nil ?_
  refine then_n ?_
  refine wp_ret ?_
  refine then_r ?_
  replace B_2 := B_2.more
  replace W := W.more
  have O_19 : Ow (.int .u8) 5 w_18 w.heap.size (Kx K w.heap.size [.none, v_8.ownBlock, some b_1]) (.slice .none 0 0) ([] : List (Int)) (some 0) := Ow.nil
  obtain rfl := Option.some.inj h
  exact b_ret2 S rfl rfl rfl ⟨(.slice .none 0 0), _, rfl, (O_19.lessO 0 rfl).forget, (RepV.mkInt GR_16), W.below⟩
 ·intro hc
  rw [if_neg (Bool.eq_false_iff.1 hc)] at h
  refine wp_skip ?_
  refine then_n ?_
  replace S := S.sub (l' := [(4, .int .i64 t_12.1), (1, pB b_1)]) (by exact ⟨rfl, rfl, trivial⟩)
  refine wp_seq ?_
  refine wp_region_lit ?_
  refine wl_pure (l' := [(21, .int .i64 t_12.1), (4, .int .i64 t_12.1), (1, pB b_1)]) S tys tys_ok 1 (by kernel_rfl) ?_
  clear S; intro a S
  obtain ⟨x_20, ex_20, h⟩ := bindS h
  refine w_go S rfl (op_arith S .i64 (t_12.1 - 12) rfl (.inr (.inl rfl)) rfl rfl rfl rfl ex_20 ?_)
  clear S; intro a S
  refine wl_pure (l' := [(23, .pointer (some ((⟨b_1, 0, .none⟩ : Addr).add (coff gf0 1)))), (22, .int .i64 x_20), (21, .int .i64 t_12.1), (4, .int .i64 t_12.1), (1, pB b_1)]) S tys tys_ok 1 (by kernel_rfl) ?_
  clear S; intro a S
  refine w_go S rfl (op_load (t := (.sl (.sl (.int .u8)))) (x := x0.2) S rfl ty23 rfl rfl rfl (RepAt.add 1 (RepAt.st (t := gf0) B_2.at_)) ?_)
  clear S; intro a v_21 R_22 S
  refine w_go S rfl (op_len (K := _) S rfl ty23 rfl rfl rfl R_22 ?_)
  clear S; intro a G_23 S
  obtain ⟨x_24, ex_24, h⟩ := bindS h
  refine w_go S rfl (op_arith S .i64 (4 * (lenI x0.2)) rfl (.inr (.inr rfl)) rfl rfl rfl rfl ex_24 ?_)
  clear S; intro a S
  obtain ⟨x_25, ex_25, h⟩ := bindS h
  refine w_go S rfl (op_arith S .i64 (x_20 - x_24) rfl (.inr (.inl rfl)) rfl rfl rfl rfl ex_25 ?_)
  clear S; intro a S
  refine wl_pureK (l' := [(6, .int .i64 x_25), (4, .int .i64 t_12.1), (1, pB b_1)]) S tys tys_ok 1 [6, 4, 1] (by kernel_rfl) ?_
  clear S; intro a S
  refine wpList_nil ?_
  refine then_n ?_
  refine wp_seq ?_
  obtain ⟨t_33, et_33, h⟩ := bindS h
  obtain ⟨t_40, et_40, h⟩ := bindS h
  obtain ⟨t_45, et_45, h⟩ := bindS h
  obtain ⟨t_50, et_50, h⟩ := bindS h
  have hR : Rel (Kx K w.heap.size [v_8.ownBlock, some b_1]) (Mk w.heap.size [v_8.ownBlock, some b_1]) := Mk.rel _ _ _
  refine wp_region_suf 11 [1, 11, 11, 4, 5, 6, 11, 8, 11, 10, 11, 12, 13] hR [isRep (.sl (.int .u8)) (Kx NoK w.heap.size [v_8.ownBlock, some b_1]) (⟨[78, 67, 77, 72], some 4⟩ : Sl (Int)), isRep (.sl (.int .u8)) (Kx K w.heap.size [v_8.ownBlock, some b_1]) (⟨[78, 67, 77, 72], some 4⟩ : Sl (Int)), isRep (.sl (.int .u8)) (Kx K w.heap.size [v_8.ownBlock, some b_1]) t_33, eqv (.pointer (some ((⟨b_1, 0, .none⟩ : Addr).add (coff gf0 0)))), isI .u16 x0.1, isI .i64 x0.1, isRep (.sl (.int .u8)) (Kx K w.heap.size [v_8.ownBlock, some b_1]) t_40, isI .i64 t_12.1, isRep (.sl (.int .u8)) (Kx K w.heap.size [v_8.ownBlock, some b_1]) t_45, isI .i64 x_25, isRep (.sl (.int .u8)) (Kx K w.heap.size [v_8.ownBlock, some b_1]) t_50] [[], [(0, 28)], [], [], [(3, 31)], [(4, 32)], [(5, 33)], [], [(7, 35)], [], [(9, 37)]] (by kernel_rfl) (by rw [S.size]; kernel_rfl) (by kernel_rfl) (by kernel_rfl) (by kernel_rfl) rfl ⟨(stab_rep (Mk.rel _ _ _)), (stab_rep hR), (stab_rep hR), (stab_eqv _), stab_I, stab_I, (stab_rep hR), stab_I, (stab_rep hR), stab_I, (stab_rep hR), trivial⟩ ?_ ?_
  ·
   refine RunAll.cons (isRep (.sl (.int .u8)) (Kx NoK w.heap.size [v_8.ownBlock, some b_1]) (⟨[78, 67, 77, 72], some 4⟩ : Sl (Int))) [] rfl rfl ?_ ?_
   ·intro W_ hW
    have S1 := S
    refine fill_nil S1 ?_; clear S1; intro a_ S1
    replace W := W.mk_ hW
    have S0 := S.defers; replace S := S1; clear S1
    refine w_go S rfl (op_buildSlice (K := NoK) (e := (.int .u8)) (vs := [.int .u8 78, .int .u8 67, .int .u8 77, .int .u8 72]) (xs := [78, 67, 77, 72]) S W rfl ty28 rfl rfl (by kernel_rfl) rfl rfl rfl rfl rfl ⟨(RepV.mkInt (by decide)), (RepV.mkInt (by decide)), (RepV.mkInt (by decide)), (RepV.mkInt (by decide)), trivial⟩ ?_)
    clear S; intro a w_58 v_55 hb_57 R_56 S
    refine wpList_nil ?_
    exact RPost.mk_ S rfl S0 R_56 (hR.below _ _ (hb_57))
   refine RunAll.cons (isRep (.sl (.int .u8)) (Kx K w.heap.size [v_8.ownBlock, some b_1]) (⟨[78, 67, 77, 72], some 4⟩ : Sl (Int))) [(isRep (.sl (.int .u8)) (Kx NoK w.heap.size [v_8.ownBlock, some b_1]) (⟨[78, 67, 77, 72], some 4⟩ : Sl (Int)), 28)] rfl rfl ?_ ?_
   ·intro W_ hW
    have S1 := S
    intro v_60 hF_59; replace hF_59 : RepV _ _ _ _ _ := hF_59
    replace S1 := S1.put (by decide : 28 < 86) (v_60)
    refine fill_nil S1 ?_; clear S1; intro a_ S1
    replace W := W.mk_ hW
    have S0 := S.defers; replace S := S1; clear S1
    refine w_go S rfl (op_mark S W rfl ty28 rfl rfl rfl (by rfl) hF_59 ?_)
    clear S; intro a w_62 hm_63 R_61 S
    replace R_61 : RepV _ _ (Kx K w.heap.size [v_8.ownBlock, some b_1]) _ _ := RepV.weak R_61
    refine wpList_nil ?_
    exact RPost.mk_ S rfl S0 R_61 (hm_63)
   refine RunAll.cons (isRep (.sl (.int .u8)) (Kx K w.heap.size [v_8.ownBlock, some b_1]) t_33) [] rfl rfl ?_ ?_
   ·intro W_ hW
    have S1 := S
    refine fill_nil S1 ?_; clear S1; intro a_ S1
    replace W := W.mk_ hW
    have S0 := S.defers; replace S := S1; clear S1
    refine w_go S rfl (op_call (vs := [.int .i64 12]) S rfl cb23 rfl rfl rfl (c23 (Kx K w.heap.size [v_8.ownBlock, some b_1]) n W_ 12 (by decide) et_33) ?_)
    rintro _ w_67 ⟨v_64, rfl, R_65, hb_66⟩; refine ⟨_, rfl, ?_⟩
    replace R_65 := RepV.back R_65 W
    clear S; intro a S
    refine wpList_nil ?_
    exact RPost.mk_ S rfl S0 R_65 (hR.below _ _ (hb_66))
   refine RunAll.cons (eqv (.pointer (some ((⟨b_1, 0, .none⟩ : Addr).add (coff gf0 0))))) [] rfl rfl ?_ ?_
   ·intro W_ hW
    have S1 := S
    replace B_2 := B_2.mk_ hW (by simp)
    exact RPost.one (v := .pointer (some ((⟨b_1, 0, .none⟩ : Addr).add (coff gf0 0)))) S1 tys tys_ok rfl (by kernel_rfl) S.defers rfl (hR.below _ _ (Below.refl _ _))
   refine RunAll.cons (isI .u16 x0.1) [(eqv (.pointer (some ((⟨b_1, 0, .none⟩ : Addr).add (coff gf0 0)))), 31)] rfl rfl ?_ ?_
   ·intro W_ hW
    have S1 := S
    intro v_69 hF_68; obtain rfl : .pointer (some ((⟨b_1, 0, .none⟩ : Addr).add (coff gf0 0))) = v_69 := Eq.symm hF_68
    replace S1 := S1.put (by decide : 31 < 86) (.pointer (some ((⟨b_1, 0, .none⟩ : Addr).add (coff gf0 0))))
    refine fill_nil S1 ?_; clear S1; intro a_ S1
    replace B_2 := B_2.mk_ hW (by simp)
    have S0 := S.defers; replace S := S1; clear S1
    refine w_go S rfl (op_load (t := (.int .u16)) (x := x0.1) S rfl ty22 rfl rfl rfl (RepAt.add 0 (RepAt.st (t := gf0) B_2.at_)) ?_)
    clear S; intro a v_70 R_71 S
    obtain ⟨rfl, GR_71⟩ := RepV.int R_71
    refine wpList_nil ?_
    exact RPost.mk_ S rfl S0 ⟨rfl, GR_71⟩ (hR.below _ _ (Below.refl _ _))
   refine RunAll.cons (isI .i64 x0.1) [(isI .u16 x0.1, 32)] rfl rfl ?_ ?_
   ·intro W_ hW
    have S1 := S
    rintro _ ⟨rfl, hF_72⟩
    replace S1 := S1.put (by decide : 32 < 86) (.int .u16 x0.1)
    refine fill_nil S1 ?_; clear S1; intro a_ S1
    replace W := W.mk_ hW
    have S0 := S.defers; replace S := S1; clear S1
    refine w_go S rfl (op_conv S .i64 .bool .bool rfl ty22 ty3 rfl rfl rfl (widen hF_72 (by decide)).1 ?_)
    clear S; intro a S
    refine wpList_nil ?_
    exact RPost.mk_ S rfl S0 ⟨rfl, (widen hF_72 (by decide)).2⟩ (hR.below _ _ (Below.refl _ _))
   refine RunAll.cons (isRep (.sl (.int .u8)) (Kx K w.heap.size [v_8.ownBlock, some b_1]) t_40) [(isI .i64 x0.1, 33)] rfl rfl ?_ ?_
   ·intro W_ hW
    have S1 := S
    rintro _ ⟨rfl, hF_74⟩
    replace S1 := S1.put (by decide : 33 < 86) (.int .i64 x0.1)
    refine fill_nil S1 ?_; clear S1; intro a_ S1
    replace W := W.mk_ hW
    have S0 := S.defers; replace S := S1; clear S1
    refine w_go S rfl (op_call (vs := [.int .i64 x0.1]) S rfl cb23 rfl rfl rfl (c23 (Kx K w.heap.size [v_8.ownBlock, some b_1]) n W_ x0.1 hF_74 et_40) ?_)
    rintro _ w_79 ⟨v_76, rfl, R_77, hb_78⟩; refine ⟨_, rfl, ?_⟩
    replace R_77 := RepV.back R_77 W
    clear S; intro a S
    refine wpList_nil ?_
    exact RPost.mk_ S rfl S0 R_77 (hR.below _ _ (hb_78))
   refine RunAll.cons (isI .i64 t_12.1) [] rfl rfl ?_ ?_
   ·intro W_ hW
    have S1 := S
    exact RPost.one (v := .int .i64 t_12.1) S1 tys tys_ok rfl (by kernel_rfl) S.defers ⟨rfl, GR_15⟩ (hR.below _ _ (Below.refl _ _))
   refine RunAll.cons (isRep (.sl (.int .u8)) (Kx K w.heap.size [v_8.ownBlock, some b_1]) t_45) [(isI .i64 t_12.1, 35)] rfl rfl ?_ ?_
   ·intro W_ hW
    have S1 := S
    rintro _ ⟨rfl, hF_80⟩
    replace S1 := S1.put (by decide : 35 < 86) (.int .i64 t_12.1)
    refine fill_nil S1 ?_; clear S1; intro a_ S1
    replace W := W.mk_ hW
    have S0 := S.defers; replace S := S1; clear S1
    refine w_go S rfl (op_call (vs := [.int .i64 t_12.1]) S rfl cb23 rfl rfl rfl (c23 (Kx K w.heap.size [v_8.ownBlock, some b_1]) n W_ t_12.1 hF_80 et_45) ?_)
    rintro _ w_85 ⟨v_82, rfl, R_83, hb_84⟩; refine ⟨_, rfl, ?_⟩
    replace R_83 := RepV.back R_83 W
    clear S; intro a S
    refine wpList_nil ?_
    exact RPost.mk_ S rfl S0 R_83 (hR.below _ _ (hb_84))
   refine RunAll.cons (isI .i64 x_25) [] rfl rfl ?_ ?_
   ·intro W_ hW
    have S1 := S
    exact RPost.one (v := .int .i64 x_25) S1 tys tys_ok rfl (by kernel_rfl) S.defers ⟨rfl, (ckI_some ex_25).2.1⟩ (hR.below _ _ (Below.refl _ _))
   refine RunAll.cons (isRep (.sl (.int .u8)) (Kx K w.heap.size [v_8.ownBlock, some b_1]) t_50) [(isI .i64 x_25, 37)] rfl rfl ?_ ?_
   ·intro W_ hW
    have S1 := S
    rintro _ ⟨rfl, hF_86⟩
    replace S1 := S1.put (by decide : 37 < 86) (.int .i64 x_25)
    refine fill_nil S1 ?_; clear S1; intro a_ S1
    replace W := W.mk_ hW
    have S0 := S.defers; replace S := S1; clear S1
    refine w_go S rfl (op_call (vs := [.int .i64 x_25]) S rfl cb23 rfl rfl rfl (c23 (Kx K w.heap.size [v_8.ownBlock, some b_1]) n W_ x_25 hF_86 et_50) ?_)
    rintro _ w_91 ⟨v_88, rfl, R_89, hb_90⟩; refine ⟨_, rfl, ?_⟩
    replace R_89 := RepV.back R_89 W
    clear S; intro a S
    refine wpList_nil ?_
    exact RPost.mk_ S rfl S0 R_89 (hR.below _ _ (hb_90))
   exact trivial
  intro w_92 hb_93
  refine EndE.some_ rfl ?_
  intro v_95 hF_94; replace hF_94 : RepV _ _ _ _ _ := hF_94
  replace S := S.put (by decide : 28 < 86) (v_95)
  refine EndE.some_ rfl ?_
  intro v_97 hF_96; replace hF_96 : RepV _ _ _ _ _ := hF_96
  replace S := S.put (by decide : 29 < 86) (v_97)
  refine EndE.some_ rfl ?_
  intro v_99 hF_98; replace hF_98 : RepV _ _ _ _ _ := hF_98
  replace S := S.put (by decide : 30 < 86) (v_99)
  refine EndE.some_ rfl ?_
  intro v_101 hF_100; obtain rfl : .pointer (some ((⟨b_1, 0, .none⟩ : Addr).add (coff gf0 0))) = v_101 := Eq.symm hF_100
  replace S := S.put (by decide : 31 < 86) (.pointer (some ((⟨b_1, 0, .none⟩ : Addr).add (coff gf0 0))))
  refine EndE.some_ rfl ?_
  rintro _ ⟨rfl, hF_102⟩
  replace S := S.put (by decide : 32 < 86) (.int .u16 x0.1)
  refine EndE.some_ rfl ?_
  rintro _ ⟨rfl, hF_104⟩
  replace S := S.put (by decide : 33 < 86) (.int .i64 x0.1)
  refine EndE.some_ rfl ?_
  intro v_107 hF_106; replace hF_106 : RepV _ _ _ _ _ := hF_106
  replace S := S.put (by decide : 34 < 86) (v_107)
  refine EndE.some_ rfl ?_
  rintro _ ⟨rfl, hF_108⟩
  replace S := S.put (by decide : 35 < 86) (.int .i64 t_12.1)
  refine EndE.some_ rfl ?_
  intro v_111 hF_110; replace hF_110 : RepV _ _ _ _ _ := hF_110
  replace S := S.put (by decide : 36 < 86) (v_111)
  refine EndE.some_ rfl ?_
  rintro _ ⟨rfl, hF_112⟩
  replace S := S.put (by decide : 37 < 86) (.int .i64 x_25)
  refine EndE.some_ rfl ?_
  intro v_115 hF_114; replace hF_114 : RepV _ _ _ _ _ := hF_114
  replace S := S.put (by decide : 38 < 86) (v_115)
  refine endE_nil S ?_; clear S; intro a S
  replace B_2 := B_2.mk_ hb_93 (by simp)
  replace W := W.mk_ hb_93
  refine w_go S rfl (op_buildSlice (K := K) (e := (.sl (.int .u8))) (vs := [v_97, v_99, v_107, v_111, v_115]) (xs := [(⟨[78, 67, 77, 72], some 4⟩ : Sl (Int)), t_33, t_40, t_45, t_50]) S W rfl ty23 rfl rfl (by kernel_rfl) rfl rfl rfl rfl rfl ⟨hF_96, hF_98, hF_106, hF_110, hF_114, trivial⟩ ?_)
  clear S; intro a w_119 v_116 hb_118 R_117 S
  replace hF_94 := hF_94.step hb_118
  replace hF_96 := hF_96.step hb_118
  replace hF_98 := hF_98.step hb_118
  replace hF_106 := hF_106.step hb_118
  replace hF_110 := hF_110.step hb_118
  replace hF_114 := hF_114.step hb_118
  replace B_2 := B_2.step hb_118
  replace W := W.step hb_118
  obtain ⟨t_120, et_120, h⟩ := bindS h
  refine w_go S rfl (op_call (vs := [v_116]) S rfl cb22 rfl rfl rfl (c22 (Kx K w.heap.size [v_8.ownBlock, some b_1]) n w_119 (⟨[(⟨[78, 67, 77, 72], some 4⟩ : Sl (Int)), t_33, t_40, t_45, t_50], some 5⟩ : Sl (Sl (Int))) _ R_117 et_120) ?_)
  rintro _ w_124 ⟨v_121, rfl, R_122, hb_123⟩; refine ⟨_, rfl, ?_⟩
  have NO_ := newO_of R_122 (Nat.le_refl _) hb_123
  replace R_122 := Ow.backO R_122 W
  clear S; intro a S
  replace hF_94 := hF_94.newO NO_
  replace hF_96 := hF_96.newO NO_
  replace hF_98 := hF_98.newO NO_
  replace hF_106 := hF_106.newO NO_
  replace hF_110 := hF_110.newO NO_
  replace hF_114 := hF_114.newO NO_
  replace R_117 := R_117.newO NO_
  replace B_2 := B_2.newO NO_
  replace W := W.newO NO_
  clear NO_
  refine wl_pureK (l' := [(7, v_121), (1, pB b_1)]) S tys tys_ok 1 [7, 1] (by kernel_rfl) ?_
  clear S; intro a S
  refine wpList_nil ?_
  refine then_n ?_
  refine wp_seq ?_
  refine wp_region_lit ?_
  refine w_go S rfl (op_buildSlice (K := NoK) (e := (.int .u8)) (vs := [.int .u8 78, .int .u8 67, .int .u8 77, .int .u8 48]) (xs := [78, 67, 77, 48]) S W rfl ty28 rfl rfl (by kernel_rfl) rfl rfl rfl rfl rfl ⟨(RepV.mkInt (by decide)), (RepV.mkInt (by decide)), (RepV.mkInt (by decide)), (RepV.mkInt (by decide)), trivial⟩ ?_)
  clear S; intro a w_128 v_125 hb_127 R_126 S
  replace B_2 := B_2.step hb_127
  replace R_122 := R_122.step hb_127
  replace W := W.step hb_127
  refine w_go S rfl (op_mark S W rfl ty28 rfl rfl rfl (by rfl) R_126 ?_)
  clear S; intro a w_130 hm_131 R_129 S
  replace B_2 := B_2.mk_ hm_131 (by simp)
  replace R_122 := R_122.mk_ hm_131 0 rfl
  replace W := W.mk_ hm_131
  replace R_129 : RepV _ _ (Kx K w.heap.size [v_121.ownBlock, v_8.ownBlock, some b_1]) _ _ := RepV.weak R_129
  refine wl_pure (l' := [(43, .pointer (some ((⟨b_1, 0, .none⟩ : Addr).add (coff gf0 1)))), (42, v_125), (41, v_125), (7, v_121), (1, pB b_1)]) S tys tys_ok 1 (by kernel_rfl) ?_
  clear S; intro a S
  refine w_go S rfl (op_load (t := (.sl (.sl (.int .u8)))) (x := x0.2) S rfl ty23 rfl rfl rfl (RepAt.add 1 (RepAt.st (t := gf0) B_2.at_)) ?_)
  clear S; intro a v_132 R_133 S
  refine w_go S rfl (op_len (K := _) S rfl ty23 rfl rfl rfl R_133 ?_)
  clear S; intro a G_134 S
  obtain ⟨x_135, ex_135, h⟩ := bindS h
  refine w_go S rfl (op_arith S .i64 (4 * (lenI x0.2)) rfl (.inr (.inr rfl)) rfl rfl rfl rfl ex_135 ?_)
  clear S; intro a S
  obtain ⟨x_136, ex_136, h⟩ := bindS h
  refine w_go S rfl (op_arith S .i64 (12 + x_135) rfl (.inl rfl) rfl rfl rfl rfl ex_136 ?_)
  clear S; intro a S
  obtain ⟨t_137, et_137, h⟩ := bindS h
  refine w_go S rfl (op_call (vs := [.int .i64 x_136]) S rfl cb23 rfl rfl rfl (c23 (Kx K w.heap.size [v_121.ownBlock, v_8.ownBlock, some b_1]) n w_130 x_136 (ckI_some ex_136).2.1 et_137) ?_)
  rintro _ w_141 ⟨v_138, rfl, R_139, hb_140⟩; refine ⟨_, rfl, ?_⟩
  replace R_139 := RepV.back R_139 W
  clear S; intro a S
  replace R_129 := R_129.step hb_140
  replace R_133 := R_133.step hb_140
  replace B_2 := B_2.step hb_140
  replace R_122 := R_122.step hb_140
  replace W := W.step hb_140
  obtain ⟨t_142, et_142, h⟩ := bindS h
  refine w_go S rfl (op_call (vs := [.int .i64 0]) S rfl cb23 rfl rfl rfl (c23 (Kx K w.heap.size [v_121.ownBlock, v_8.ownBlock, some b_1]) n w_141 0 (by decide) et_142) ?_)
  rintro _ w_146 ⟨v_143, rfl, R_144, hb_145⟩; refine ⟨_, rfl, ?_⟩
  replace R_144 := RepV.back R_144 W
  clear S; intro a S
  replace R_129 := R_129.step hb_145
  replace R_133 := R_133.step hb_145
  replace R_139 := R_139.step hb_145
  replace B_2 := B_2.step hb_145
  replace R_122 := R_122.step hb_145
  replace W := W.step hb_145
  refine w_go S rfl (op_buildSlice (K := K) (e := (.sl (.int .u8))) (vs := [v_125, v_138, v_143]) (xs := [(⟨[78, 67, 77, 48], some 4⟩ : Sl (Int)), t_137, t_142]) S W rfl ty23 rfl rfl (by kernel_rfl) rfl rfl rfl rfl rfl ⟨R_129, R_139, R_144, trivial⟩ ?_)
  clear S; intro a w_150 v_147 hb_149 R_148 S
  replace R_129 := R_129.step hb_149
  replace R_133 := R_133.step hb_149
  replace R_139 := R_139.step hb_149
  replace R_144 := R_144.step hb_149
  replace B_2 := B_2.step hb_149
  replace R_122 := R_122.step hb_149
  replace W := W.step hb_149
  obtain ⟨t_151, et_151, h⟩ := bindS h
  refine w_go S rfl (op_call (vs := [v_147]) S rfl cb22 rfl rfl rfl (c22 (Kx K w.heap.size [v_121.ownBlock, v_8.ownBlock, some b_1]) n w_150 (⟨[(⟨[78, 67, 77, 48], some 4⟩ : Sl (Int)), t_137, t_142], some 3⟩ : Sl (Sl (Int))) _ R_148 et_151) ?_)
  rintro _ w_155 ⟨v_152, rfl, R_153, hb_154⟩; refine ⟨_, rfl, ?_⟩
  have NO_ := newO_of R_153 (Nat.le_refl _) hb_154
  replace R_153 := Ow.backO R_153 W
  clear S; intro a S
  replace R_129 := R_129.newO NO_
  replace R_133 := R_133.newO NO_
  replace R_139 := R_139.newO NO_
  replace R_144 := R_144.newO NO_
  replace R_148 := R_148.newO NO_
  replace B_2 := B_2.newO NO_
  replace R_122 := R_122.newO NO_
  replace W := W.newO NO_
  clear NO_
  refine wl_pureK (l' := [(8, v_152), (7, v_121), (1, pB b_1)]) S tys tys_ok 1 [8, 7, 1] (by kernel_rfl) ?_
  clear S; intro a S
  refine wpList_nil ?_
  refine then_n ?_
  refine wp_seq ?_
  refine wp_seq ?_
  refine wp_region_lit ?_
  refine wl_pure (l' := [(52, .pointer (some ((⟨b_1, 0, .none⟩ : Addr).add (coff gf0 1)))), (8, v_152), (7, v_121), (1, pB b_1)]) S tys tys_ok 1 (by kernel_rfl) ?_
  clear S; intro a S
  refine w_go S rfl (op_load (t := (.sl (.sl (.int .u8)))) (x := x0.2) S rfl ty23 rfl rfl rfl (RepAt.add 1 (RepAt.st (t := gf0) B_2.at_)) ?_)
  clear S; intro a v_156 R_157 S
  refine w_go S rfl (op_len (K := _) S rfl ty23 rfl rfl rfl R_157 ?_)
  clear S; intro a G_158 S
  refine wl_pure (l' := [(55, .int .i64 0), (54, .int .i64 (lenI x0.2)), (53, v_156), (52, .pointer (some ((⟨b_1, 0, .none⟩ : Addr).add (coff gf0 1)))), (8, v_152), (7, v_121), (1, pB b_1)]) S tys tys_ok 1 (by kernel_rfl) ?_
  clear S; intro a S
  refine wpList_nil ?_
  refine then_n ?_
  replace S := S.sub (l' := [(55, .int .i64 0), (54, .int .i64 (lenI x0.2)), (53, v_156), (8, v_152), (7, v_121)]) (by exact ⟨rfl, rfl, rfl, rfl, rfl, trivial⟩)
  obtain ⟨y_175, ey_175, h⟩ := bindS h
  refine wp_cut_ (fun a_ w_ => ∃ (v_176 : Value) (v_178 : Value), St 86 a_ [(7, v_176), (8, v_178)] ∧ Wd w w_ [v_178.ownBlock, v_176.ownBlock, v_8.ownBlock, some b_1] ∧ Bx gt0 25 w_ (Kx K w.heap.size [v_178.ownBlock, v_176.ownBlock, v_8.ownBlock, some b_1]) b_1 x0 ∧ Ow (.int .u8) 5 w_ w.heap.size (Kx K w.heap.size [v_178.ownBlock, v_176.ownBlock, v_8.ownBlock, some b_1]) v_176 y_175.1 .none ∧ Ow (.int .u8) 5 w_ w.heap.size (Kx K w.heap.size [v_178.ownBlock, v_176.ownBlock, v_8.ownBlock, some b_1]) v_178 y_175.2 .none) ?_ ?_
  ·refine wp_block ?_
   refine wp_loop_n (fun m_ a_ w_ => ∃ (c_159 : Int) (c_161 : List (Int)) (c_164 : List (Int)) , ∃ (v_162 : Value) (v_165 : Value), St 86 a_ [(55, .int .i64 c_159), (54, .int .i64 (lenI x0.2)), (53, v_156), (8, v_162), (7, v_165)] ∧ Wd w w_ [v_162.ownBlock, v_165.ownBlock, v_8.ownBlock, some b_1] ∧ InR .i64 c_159 ∧ RepV (.sl (.sl (.int .u8))) w_ (Kx K w.heap.size [v_162.ownBlock, v_165.ownBlock, v_8.ownBlock, some b_1]) v_156 x0.2 ∧ Bx gt0 25 w_ (Kx K w.heap.size [v_162.ownBlock, v_165.ownBlock, v_8.ownBlock, some b_1]) b_1 x0 ∧ Ow (.int .u8) 5 w_ w.heap.size (Kx K w.heap.size [v_162.ownBlock, v_165.ownBlock, v_8.ownBlock, some b_1]) v_162 c_161 .none ∧ Ow (.int .u8) 5 w_ w.heap.size (Kx K w.heap.size [v_162.ownBlock, v_165.ownBlock, v_8.ownBlock, some b_1]) v_165 c_164 .none ∧ p11_l1 n x0 m_ c_159 c_161 c_164 = some y_175) n ?_ ?_
   ·skip
    exact ⟨0, t_151.xs, t_120.xs, ⟨v_152, v_121, S.sub (by exact ⟨rfl, rfl, rfl, rfl, rfl, trivial⟩), W, (by decide), R_157, B_2, R_153.forget, R_122.forget, ey_175⟩⟩
   ·clear S W; rintro m_180 a w_182 ⟨c_159, c_161, c_164, v_162, v_165, S, W, G_160, R_157, B_2, O_163, O_166, hl_181⟩
    cases m_180 with
    | zero => exact absurd hl_181 (by simp [p11_l1])
    | succ m_180 =>
     refine ⟨m_180, rfl, ?_⟩
     rw [p11_l1] at hl_181
     refine wp_seq ?_
     refine wp_region_lit ?_
     refine wl_pure (l' := [(56, .bool (decide (c_159 < (lenI x0.2)))), (55, .int .i64 c_159), (54, .int .i64 (lenI x0.2)), (53, v_156), (8, v_162), (7, v_165)]) S tys tys_ok 1 (by kernel_rfl) ?_
     clear S; intro a S
     refine wpList_nil ?_
     refine then_n ?_
     refine wp_seq ?_
     refine wp_cond_split (S.eval (show ev _ _ = some (.bool (decide (c_159 < (lenI x0.2)))) from rfl)) ?_ ?_
     ·intro hc
      rw [if_pos hc] at hl_181
      refine wp_skip ?_
      refine then_n ?_
      replace S := S.sub (l' := [(55, .int .i64 c_159), (54, .int .i64 (lenI x0.2)), (53, v_156), (8, v_162), (7, v_165)]) (by exact ⟨rfl, rfl, rfl, rfl, rfl, trivial⟩)
      refine wp_seq ?_
      refine wp_block ?_
      refine wp_seq ?_
      refine wp_region_lit ?_
      obtain ⟨y_183, ey_183, hl_181⟩ := bindS hl_181
      refine w_go S rfl (op_indexAddr S rfl ty23 rfl rfl rfl R_157 rfl ey_183 ?_)
      clear S; intro a p_184 R_185 H_186 S
      refine w_go S rfl (op_load (t := (.sl (.int .u8))) (x := y_183) S rfl ty28 rfl rfl rfl R_185 ?_)
      clear S; intro a v_187 R_188 S
      refine wl_pure (l' := [(10, v_187), (58, v_187), (57, .pointer (some p_184)), (55, .int .i64 c_159), (54, .int .i64 (lenI x0.2)), (53, v_156), (8, v_162), (7, v_165)]) S tys tys_ok 1 (by kernel_rfl) ?_
      clear S; intro a S
      refine wpList_nil ?_
      refine then_n ?_
      replace S := S.sub (l' := [(10, v_187), (55, .int .i64 c_159), (54, .int .i64 (lenI x0.2)), (53, v_156), (8, v_162), (7, v_165)]) (by exact ⟨rfl, rfl, rfl, rfl, rfl, rfl, trivial⟩)
      refine wp_seq ?_
      refine wp_region_lit ?_
      refine wl_pure (l' := [(60, v_165), (59, v_162), (10, v_187), (55, .int .i64 c_159), (54, .int .i64 (lenI x0.2)), (53, v_156), (8, v_162), (7, v_165)]) S tys tys_ok 2 (by kernel_rfl) ?_
      clear S; intro a S
      refine w_go S rfl (op_len (K := _) S rfl ty28 rfl rfl rfl O_166.read ?_)
      clear S; intro a G_189 S
      obtain ⟨t_190, et_190, hl_181⟩ := bindS hl_181
      refine w_go S rfl (op_call (vs := [.int .i64 (lenI (⟨c_164, .none⟩ : Sl (Int)))]) S rfl cb23 rfl rfl rfl (c23 (Kx K w.heap.size [v_162.ownBlock, v_165.ownBlock, v_8.ownBlock, some b_1]) n w_182 (lenI (⟨c_164, .none⟩ : Sl (Int))) G_189 et_190) ?_)
      rintro _ w_194 ⟨v_191, rfl, R_192, hb_193⟩; refine ⟨_, rfl, ?_⟩
      replace R_192 := RepV.back R_192 W
      clear S; intro a S
      replace R_188 := R_188.step hb_193
      replace R_157 := R_157.step hb_193
      replace B_2 := B_2.step hb_193
      replace O_163 := O_163.step hb_193
      replace O_166 := O_166.step hb_193
      replace W := W.step hb_193
      refine wl_pure (l' := [(63, v_187), (62, v_191), (61, .int .i64 (lenI (⟨c_164, .none⟩ : Sl (Int)))), (60, v_165), (59, v_162), (10, v_187), (55, .int .i64 c_159), (54, .int .i64 (lenI x0.2)), (53, v_156), (8, v_162), (7, v_165)]) S tys tys_ok 1 (by kernel_rfl) ?_
      clear S; intro a S
      refine w_go S rfl (op_len (K := _) S rfl ty28 rfl rfl rfl R_188 ?_)
      clear S; intro a G_195 S
      obtain ⟨t_196, et_196, hl_181⟩ := bindS hl_181
      refine w_go S rfl (op_call (vs := [.int .i64 (lenI y_183)]) S rfl cb23 rfl rfl rfl (c23 (Kx K w.heap.size [v_162.ownBlock, v_165.ownBlock, v_8.ownBlock, some b_1]) n w_194 (lenI y_183) G_195 et_196) ?_)
      rintro _ w_200 ⟨v_197, rfl, R_198, hb_199⟩; refine ⟨_, rfl, ?_⟩
      replace R_198 := RepV.back R_198 W
      clear S; intro a S
      replace R_188 := R_188.step hb_199
      replace R_157 := R_157.step hb_199
      replace R_192 := R_192.step hb_199
      replace B_2 := B_2.step hb_199
      replace O_163 := O_163.step hb_199
      replace O_166 := O_166.step hb_199
      replace W := W.step hb_199
      have R_201 : RepV (.sl (.int .u8)) w_200 (Kx K w.heap.size [v_165.ownBlock, v_8.ownBlock, some b_1]) v_162 (⟨c_161, .none⟩ : Sl (Int)) := O_163.pubAt W 0 rfl
      replace R_188 : RepV (.sl (.int .u8)) w_200 (Kx K w.heap.size [v_165.ownBlock, v_8.ownBlock, some b_1]) v_187 y_183 := R_188.lessAt 0
      replace R_157 : RepV (.sl (.sl (.int .u8))) w_200 (Kx K w.heap.size [v_165.ownBlock, v_8.ownBlock, some b_1]) v_156 x0.2 := R_157.lessAt 0
      replace R_192 : RepV (.sl (.int .u8)) w_200 (Kx K w.heap.size [v_165.ownBlock, v_8.ownBlock, some b_1]) v_191 t_190 := R_192.lessAt 0
      replace R_198 : RepV (.sl (.int .u8)) w_200 (Kx K w.heap.size [v_165.ownBlock, v_8.ownBlock, some b_1]) v_197 t_196 := R_198.lessAt 0
      replace B_2 : Bx gt0 25 w_200 (Kx K w.heap.size [v_165.ownBlock, v_8.ownBlock, some b_1]) b_1 x0 := B_2.lessAt 0
      replace O_166 : Ow (.int .u8) 5 w_200 w.heap.size (Kx K w.heap.size [v_165.ownBlock, v_8.ownBlock, some b_1]) v_165 c_164 .none := O_166.lessAt 0
      replace W : Wd w w_200 [v_165.ownBlock, v_8.ownBlock, some b_1] := W.lessAt 0
      refine w_go S rfl (op_buildSlice (K := K) (e := (.sl (.int .u8))) (vs := [v_162, v_191, v_197]) (xs := [(⟨c_161, .none⟩ : Sl (Int)), t_190, t_196]) S W rfl ty23 rfl rfl (by kernel_rfl) rfl rfl rfl rfl rfl ⟨R_201, R_192, R_198, trivial⟩ ?_)
      clear S; intro a w_205 v_202 hb_204 R_203 S
      replace R_188 := R_188.step hb_204
      replace R_157 := R_157.step hb_204
      replace R_201 := R_201.step hb_204
      replace R_192 := R_192.step hb_204
      replace R_198 := R_198.step hb_204
      replace B_2 := B_2.step hb_204
      replace O_166 := O_166.step hb_204
      replace W := W.step hb_204
      obtain ⟨t_206, et_206, hl_181⟩ := bindS hl_181
      refine w_go S rfl (op_call (vs := [v_202]) S rfl cb22 rfl rfl rfl (c22 (Kx K w.heap.size [v_165.ownBlock, v_8.ownBlock, some b_1]) n w_205 (⟨[(⟨c_161, .none⟩ : Sl (Int)), t_190, t_196], some 3⟩ : Sl (Sl (Int))) _ R_203 et_206) ?_)
      rintro _ w_210 ⟨v_207, rfl, R_208, hb_209⟩; refine ⟨_, rfl, ?_⟩
      have NO_ := newO_of R_208 (Nat.le_refl _) hb_209
      replace R_208 := Ow.backO R_208 W
      clear S; intro a S
      replace R_188 := R_188.newO NO_
      replace R_157 := R_157.newO NO_
      replace R_201 := R_201.newO NO_
      replace R_192 := R_192.newO NO_
      replace R_198 := R_198.newO NO_
      replace R_203 := R_203.newO NO_
      replace B_2 := B_2.newO NO_
      replace O_166 := O_166.newO NO_
      replace W := W.newO NO_
      clear NO_
      refine wl_pureK (l' := [(8, v_207), (10, v_187), (55, .int .i64 c_159), (54, .int .i64 (lenI x0.2)), (53, v_156), (8, v_162), (7, v_165)]) S tys tys_ok 1 [8, 10, 55, 54, 53, 7] (by kernel_rfl) ?_
      clear S; intro a S
      refine wpList_nil ?_
      refine then_n ?_
      refine wp_seq ?_
      refine wp_region_lit ?_
      refine wl_pure (l' := [(69, v_187), (68, v_165), (8, v_207), (10, v_187), (55, .int .i64 c_159), (54, .int .i64 (lenI x0.2)), (53, v_156), (8, v_162), (7, v_165)]) S tys tys_ok 2 (by kernel_rfl) ?_
      clear S; intro a S
      obtain ⟨l_211, el_211, hl_181⟩ := bindS hl_181
      refine w_go S rfl (op_append S W (E := 5) 1 rfl ty28 un28 by28 rfl rfl rfl rfl O_166 rfl R_188 el_211 ?_)
      clear S; intro a w_213 v_212 A_214 O_215 S
      replace R_188 : RepV (.sl (.int .u8)) w_213 (Kx K w.heap.size [v_207.ownBlock, v_212.ownBlock, v_8.ownBlock, some b_1]) v_187 y_183 := R_188.apd A_214 (i := 1) rfl
      replace R_157 : RepV (.sl (.sl (.int .u8))) w_213 (Kx K w.heap.size [v_207.ownBlock, v_212.ownBlock, v_8.ownBlock, some b_1]) v_156 x0.2 := R_157.apd A_214 (i := 1) rfl
      replace B_2 : Bx gt0 25 w_213 (Kx K w.heap.size [v_207.ownBlock, v_212.ownBlock, v_8.ownBlock, some b_1]) b_1 x0 := B_2.apd W A_214 (i := 1) rfl (j := 3) rfl (by decide)
      replace R_208 : Ow (.int .u8) 5 w_213 w.heap.size (Kx K w.heap.size [v_207.ownBlock, v_212.ownBlock, v_8.ownBlock, some b_1]) v_207 t_206.xs t_206.cap := R_208.apd W A_214 (i := 1) rfl (j := 0) rfl (by decide)
      replace W : Wd w w_213 [v_207.ownBlock, v_212.ownBlock, v_8.ownBlock, some b_1] := W.apd A_214 (i := 1) rfl
      replace O_215 : Ow (.int .u8) 5 w_213 w.heap.size (Kx K w.heap.size [v_207.ownBlock, v_212.ownBlock, v_8.ownBlock, some b_1]) v_212 l_211 (capA .none l_211.length) := O_215
      refine wl_pureK (l' := [(7, v_212), (8, v_207), (55, .int .i64 c_159), (54, .int .i64 (lenI x0.2)), (53, v_156), (8, v_162), (7, v_165)]) S tys tys_ok 1 [7, 8, 55, 54, 53] (by kernel_rfl) ?_
      clear S; intro a S
      refine wpList_nil ?_
      refine then_n ?_
      refine wp_region_lit ?_
      refine wl_pure (l' := [(72, v_212), (71, v_212), (7, v_212), (8, v_207), (55, .int .i64 c_159), (54, .int .i64 (lenI x0.2)), (53, v_156), (8, v_162), (7, v_165)]) S tys tys_ok 2 (by kernel_rfl) ?_
      clear S; intro a S
      refine w_go S rfl (op_len (K := _) S rfl ty28 rfl rfl rfl O_215.read ?_)
      clear S; intro a G_216 S
      obtain ⟨t_217, et_217, hl_181⟩ := bindS hl_181
      refine w_go S rfl (op_call (vs := [.int .i64 (lenI (⟨l_211, capA .none l_211.length⟩ : Sl (Int)))]) S rfl cb20 rfl rfl rfl (c20 (Kx K w.heap.size [v_207.ownBlock, v_212.ownBlock, v_8.ownBlock, some b_1]) n w_213 (lenI (⟨l_211, capA .none l_211.length⟩ : Sl (Int))) G_216 et_217) ?_)
      rintro _ w_221 ⟨v_218, rfl, R_219, hb_220⟩; refine ⟨_, rfl, ?_⟩
      replace R_219 := RepV.back R_219 W
      clear S; intro a S
      replace R_157 := R_157.step hb_220
      replace B_2 := B_2.step hb_220
      replace R_208 := R_208.step hb_220
      replace O_215 := O_215.step hb_220
      replace W := W.step hb_220
      obtain ⟨rfl, GR_219⟩ := RepV.int R_219
      refine wl_pure (l' := [(75, v_212), (74, .int .i64 t_217), (73, .int .i64 (lenI (⟨l_211, capA .none l_211.length⟩ : Sl (Int)))), (72, v_212), (71, v_212), (7, v_212), (8, v_207), (55, .int .i64 c_159), (54, .int .i64 (lenI x0.2)), (53, v_156), (8, v_162), (7, v_165)]) S tys tys_ok 1 (by kernel_rfl) ?_
      clear S; intro a S
      refine w_go S rfl (op_len (K := _) S rfl ty28 rfl rfl rfl O_215.read ?_)
      clear S; intro a G_222 S
      obtain ⟨x_223, ex_223, hl_181⟩ := bindS hl_181
      refine w_go S rfl (op_arith S .i64 (t_217 - (lenI (⟨l_211, capA .none l_211.length⟩ : Sl (Int)))) rfl (.inr (.inl rfl)) rfl rfl rfl rfl ex_223 ?_)
      clear S; intro a S
      obtain ⟨l_224, el_224, hl_181⟩ := bindS hl_181
      refine w_go S rfl (op_append_int (e := (.int .u8)) S W (E := 5) (z0 := 0) 1 _ rfl ty28 ty3 un28 by28 z5 (fun w K => ⟨rfl, by decide⟩) rfl rfl rfl rfl O_215 rfl el_224 ?_)
      clear S; intro a w_226 v_225 A_227 O_228 S
      replace R_157 : RepV (.sl (.sl (.int .u8))) w_226 (Kx K w.heap.size [v_207.ownBlock, v_225.ownBlock, v_8.ownBlock, some b_1]) v_156 x0.2 := R_157.apd A_227 (i := 1) rfl
      replace B_2 : Bx gt0 25 w_226 (Kx K w.heap.size [v_207.ownBlock, v_225.ownBlock, v_8.ownBlock, some b_1]) b_1 x0 := B_2.apd W A_227 (i := 1) rfl (j := 3) rfl (by decide)
      replace R_208 : Ow (.int .u8) 5 w_226 w.heap.size (Kx K w.heap.size [v_207.ownBlock, v_225.ownBlock, v_8.ownBlock, some b_1]) v_207 t_206.xs t_206.cap := R_208.apd W A_227 (i := 1) rfl (j := 0) rfl (by decide)
      replace W : Wd w w_226 [v_207.ownBlock, v_225.ownBlock, v_8.ownBlock, some b_1] := W.apd A_227 (i := 1) rfl
      replace O_228 : Ow (.int .u8) 5 w_226 w.heap.size (Kx K w.heap.size [v_207.ownBlock, v_225.ownBlock, v_8.ownBlock, some b_1]) v_225 l_224 (capA (capA .none l_211.length) l_224.length) := O_228
      refine wl_pureK (l' := [(7, v_225), (7, v_212), (8, v_207), (55, .int .i64 c_159), (54, .int .i64 (lenI x0.2)), (53, v_156), (8, v_162), (7, v_165)]) S tys tys_ok 1 [7, 8, 55, 54, 53] (by kernel_rfl) ?_
      clear S; intro a S
      refine wpList_nil ?_
      refine blk_n ?_
      refine then_n ?_
      refine wp_region_lit ?_
      obtain ⟨x_229, ex_229, hl_181⟩ := bindS hl_181
      refine w_go S rfl (op_arith S .i64 (c_159 + 1) rfl (.inl rfl) rfl rfl rfl rfl ex_229 ?_)
      clear S; intro a S
      refine wl_pure (l' := [(55, .int .i64 x_229), (79, .int .i64 x_229), (7, v_225), (7, v_212), (8, v_207), (55, .int .i64 c_159), (54, .int .i64 (lenI x0.2)), (53, v_156), (8, v_162), (7, v_165)]) S tys tys_ok 1 (by kernel_rfl) ?_
      clear S; intro a S
      refine wpList_nil ?_
      refine then_n ?_
      exact ⟨x_229, t_206.xs, l_224, ⟨v_207, v_225, S.sub (by exact ⟨rfl, rfl, rfl, rfl, rfl, trivial⟩), W, (ckI_some ex_229).2.1, R_157, B_2, R_208.forget, O_228.forget, hl_181⟩⟩
     ·intro hc
      rw [if_neg (Bool.eq_false_iff.1 hc)] at hl_181
      refine wp_exit ?_
      refine then_x ?_
      refine then_x ?_
      refine blk_hit ?_
      refine then_n ?_
      obtain rfl := Option.some.inj hl_181
      exact ⟨v_165, v_162, S.sub (by exact ⟨rfl, rfl, trivial⟩), W, B_2, O_166, O_163⟩
  clear S W; rintro a w_230 ⟨v_176, v_178, S, W, B_2, O_177, O_179⟩
  refine then_n ?_
  refine wp_seq ?_
  refine wp_region_lit ?_
  refine wl_pure (l' := [(81, v_178), (80, v_176), (7, v_176), (8, v_178)]) S tys tys_ok 2 (by kernel_rfl) ?_
  clear S; intro a S
  obtain ⟨m_231, em_231, h⟩ := bindS h
  refine w_go S rfl (op_make (K := K) (e := (.int .u8)) (z0 := 0) S W _ rfl ty28 un28 by28 z5 (fun w K => ⟨rfl, by decide⟩) rfl rfl rfl rfl em_231 ?_)
  clear S; intro a w_233 b_232 hb_234 O_235 S
  replace B_2 := B_2.box hb_234
  replace O_177 := O_177.box hb_234
  replace O_179 := O_179.box hb_234
  replace W := W.box hb_234
  replace O_235 : Ow (.int .u8) 5 w_233 w.heap.size (Kx K w.heap.size [some b_232, v_178.ownBlock, v_176.ownBlock, v_8.ownBlock, some b_1]) (.slice (some ⟨b_232, 0, .none⟩) m_231.1 m_231.2) (List.replicate m_231.1 (0 : Int)) (some m_231.2) := O_235
  have R_236 : RepV (.sl (.int .u8)) w_233 (Kx K w.heap.size [some b_232, v_178.ownBlock, v_8.ownBlock, some b_1]) v_176 (⟨y_175.1, .none⟩ : Sl (Int)) := O_177.pubAt W 2 rfl
  replace B_2 : Bx gt0 25 w_233 (Kx K w.heap.size [some b_232, v_178.ownBlock, v_8.ownBlock, some b_1]) b_1 x0 := B_2.lessAt 2
  replace O_179 : Ow (.int .u8) 5 w_233 w.heap.size (Kx K w.heap.size [some b_232, v_178.ownBlock, v_8.ownBlock, some b_1]) v_178 y_175.2 .none := O_179.lessAt 2
  replace O_235 : Ow (.int .u8) 5 w_233 w.heap.size (Kx K w.heap.size [some b_232, v_178.ownBlock, v_8.ownBlock, some b_1]) (.slice (some ⟨b_232, 0, .none⟩) m_231.1 m_231.2) (List.replicate m_231.1 (0 : Int)) (some m_231.2) := O_235.lessAt 2
  replace W : Wd w w_233 [some b_232, v_178.ownBlock, v_8.ownBlock, some b_1] := W.lessAt 2
  have R_237 : RepV (.sl (.int .u8)) w_233 (Kx K w.heap.size [some b_232, v_8.ownBlock, some b_1]) v_178 (⟨y_175.2, .none⟩ : Sl (Int)) := O_179.pubAt W 1 rfl
  replace R_236 : RepV (.sl (.int .u8)) w_233 (Kx K w.heap.size [some b_232, v_8.ownBlock, some b_1]) v_176 (⟨y_175.1, .none⟩ : Sl (Int)) := R_236.lessAt 1
  replace B_2 : Bx gt0 25 w_233 (Kx K w.heap.size [some b_232, v_8.ownBlock, some b_1]) b_1 x0 := B_2.lessAt 1
  replace O_235 : Ow (.int .u8) 5 w_233 w.heap.size (Kx K w.heap.size [some b_232, v_8.ownBlock, some b_1]) (.slice (some ⟨b_232, 0, .none⟩) m_231.1 m_231.2) (List.replicate m_231.1 (0 : Int)) (some m_231.2) := O_235.lessAt 1
  replace W : Wd w w_233 [some b_232, v_8.ownBlock, some b_1] := W.lessAt 1
  have R_238 : RepV (.sl (.int .u8)) w_233 (Kx K w.heap.size [v_8.ownBlock, some b_1]) (.slice (some ⟨b_232, 0, .none⟩) m_231.1 m_231.2) (⟨(List.replicate m_231.1 (0 : Int)), some m_231.2⟩ : Sl (Int)) := O_235.pubAt W 0 rfl
  replace R_236 : RepV (.sl (.int .u8)) w_233 (Kx K w.heap.size [v_8.ownBlock, some b_1]) v_176 (⟨y_175.1, .none⟩ : Sl (Int)) := R_236.lessAt 0
  replace R_237 : RepV (.sl (.int .u8)) w_233 (Kx K w.heap.size [v_8.ownBlock, some b_1]) v_178 (⟨y_175.2, .none⟩ : Sl (Int)) := R_237.lessAt 0
  replace B_2 : Bx gt0 25 w_233 (Kx K w.heap.size [v_8.ownBlock, some b_1]) b_1 x0 := B_2.lessAt 0
  replace W : Wd w w_233 [v_8.ownBlock, some b_1] := W.lessAt 0
  refine w_go S rfl (op_buildSlice (K := K) (e := (.sl (.int .u8))) (vs := [v_176, v_178, (.slice (some ⟨b_232, 0, .none⟩) m_231.1 m_231.2)]) (xs := [(⟨y_175.1, .none⟩ : Sl (Int)), (⟨y_175.2, .none⟩ : Sl (Int)), (⟨(List.replicate m_231.1 (0 : Int)), some m_231.2⟩ : Sl (Int))]) S W rfl ty23 rfl rfl (by kernel_rfl) rfl rfl rfl rfl rfl ⟨R_236, R_237, R_238, trivial⟩ ?_)
  clear S; intro a w_242 v_239 hb_241 R_240 S
  replace R_236 := R_236.step hb_241
  replace R_237 := R_237.step hb_241
  replace R_238 := R_238.step hb_241
  replace B_2 := B_2.step hb_241
  replace W := W.step hb_241
  obtain ⟨t_243, et_243, h⟩ := bindS h
  refine w_go S rfl (op_call (vs := [v_239]) S rfl cb22 rfl rfl rfl (c22 (Kx K w.heap.size [v_8.ownBlock, some b_1]) n w_242 (⟨[(⟨y_175.1, .none⟩ : Sl (Int)), (⟨y_175.2, .none⟩ : Sl (Int)), (⟨(List.replicate m_231.1 (0 : Int)), some m_231.2⟩ : Sl (Int))], some 3⟩ : Sl (Sl (Int))) _ R_240 et_243) ?_)
  rintro _ w_247 ⟨v_244, rfl, R_245, hb_246⟩; refine ⟨_, rfl, ?_⟩
  have NO_ := newO_of R_245 (Nat.le_refl _) hb_246
  replace R_245 := Ow.backO R_245 W
  clear S; intro a S
  replace R_236 := R_236.newO NO_
  replace R_237 := R_237.newO NO_
  replace R_238 := R_238.newO NO_
  replace R_240 := R_240.newO NO_
  replace B_2 := B_2.newO NO_
  replace W := W.newO NO_
  clear NO_
  obtain ⟨t_248, et_248, h⟩ := bindS h
  refine w_go S rfl (op_call (vs := [v_244]) S rfl cb24 rfl rfl rfl (cut24 n w_247 R_245 et_248) ?_)
  rintro _ _ ⟨rfl, rfl, hq_249⟩; refine ⟨_, rfl, ?_⟩
  clear S; intro a S
  replace R_245 : Ow (.int .u8) 5 w_247 w.heap.size (Kx K w.heap.size [v_244.ownBlock, v_8.ownBlock, some b_1]) v_244 t_248.xs .none := by rw [hq_249]; exact R_245.forget
  refine wl_pureK (l' := [(3, .int .i64 0), (2, (cutV v_244))]) S tys tys_ok 2 [3, 2] (by kernel_rfl) ?_
  clear S; intro a S
  refine wpList_nil ?_
  refine then_n ?_
  refine wp_ret ?_
  obtain rfl := Option.some.inj h
  exact b_ret2 S rfl rfl rfl ⟨v_244, _, rfl, (R_245.lessO 0 rfl).forget, (RepV.mkInt (by decide)), W.below⟩
theorem cb11 : callB Try.prog 11 = true := by kernel_rfl
def p8 (n : Nat)  : Option ((Bool)) :=
 (p11 n (7, (⟨[(⟨[1, 2, 3], some 3⟩ : Sl (Int)), (⟨[9], some 1⟩ : Sl (Int))], some 2⟩ : Sl (Sl (Int))))).bind fun t_15 =>
 (p10 n (⟨[3, 1], some 2⟩ : Sl (Int))).bind fun t_26 =>
 (if (t_15.2 == 0) = true then some (t_26.2 == 0) else some false).bind fun q_33 =>
 (if q_33 = true then some (t_26.1 == 40) else some false).bind fun q_34 =>
 (if q_34 = true then some (decide (t_15.1.xs = [78, 67, 77, 72, 12, 0, 7, 0, 40, 0, 20, 0, 1, 2, 3, 0, 9, 0, 0, 0, 78, 67, 77, 48, 20, 0, 0, 0, 12, 0, 3, 0, 16, 0, 1, 0, 0, 0, 0, 0])) else some false).bind fun q_35 =>
 some q_35
set_option maxHeartbeats 4000000 in
set_option maxRecDepth 100000 in
/-- plugboard/plugboardlaw43.lives -/
theorem c8 (K : Nat → Prop) (n : Nat) (w : World)  {r : (Bool)} (h : p8 n  = some r) :
  Calls Try.prog 8 #[] w (Ret1 .bool w (Kx K w.heap.size []) r) := by
 refine enter (args := []) Try.func8 rfl 33 rfl rfl fun a S => ?_
 have W := Wd.start w
 unfold p8 at h
 replace S : St 33 a [] := S
 refine wp_seq ?_
 refine wp_region_lit ?_
 refine wl_pure (l' := [(0, .bool false)]) S tys tys_ok 1 (by kernel_rfl) ?_
 clear S; intro a S
 refine wpList_nil ?_
 refine then_n ?_
 replace S := S.sub (l' := []) trivial
 refine wp_seq ?_
 refine wp_region_lit ?_
 refine w_go S rfl (op_buildSlice (K := K) (e := (.int .u8)) (vs := [.int .u8 1, .int .u8 2, .int .u8 3]) (xs := [1, 2, 3]) S W rfl ty28 rfl rfl (by kernel_rfl) rfl rfl rfl rfl rfl ⟨(RepV.mkInt (by decide)), (RepV.mkInt (by decide)), (RepV.mkInt (by decide)), trivial⟩ ?_)
 clear S; intro a w_4 v_1 hb_3 R_2 S
 replace W := W.step hb_3
 refine w_go S rfl (op_buildSlice (K := K) (e := (.int .u8)) (vs := [.int .u8 9]) (xs := [9]) S W rfl ty28 rfl rfl (by kernel_rfl) rfl rfl rfl rfl rfl ⟨(RepV.mkInt (by decide)), trivial⟩ ?_)
 clear S; intro a w_8 v_5 hb_7 R_6 S
 replace R_2 := R_2.step hb_7
 replace W := W.step hb_7
 refine w_go S rfl (op_buildSlice (K := K) (e := (.sl (.int .u8))) (vs := [v_1, v_5]) (xs := [(⟨[1, 2, 3], some 3⟩ : Sl (Int)), (⟨[9], some 1⟩ : Sl (Int))]) S W rfl ty23 rfl rfl (by kernel_rfl) rfl rfl rfl rfl rfl ⟨R_2, R_6, trivial⟩ ?_)
 clear S; intro a w_12 v_9 hb_11 R_10 S
 replace R_2 := R_2.step hb_11
 replace R_6 := R_6.step hb_11
 replace W := W.step hb_11
 refine w_go S rfl (op_build (K := (Kx K w.heap.size [])) (f := gf0) (z0 := (0, ⟨[], some 0⟩)) (x := (7, (⟨[(⟨[1, 2, 3], some 3⟩ : Sl (Int)), (⟨[9], some 1⟩ : Sl (Int))], some 2⟩ : Sl (Sl (Int))))) (vs := [.int .u16 7, v_9]) S _ rfl ty25 z25 (fun w K => ⟨[.int .u16 0], [.slice .none 0 0], rfl, ⟨rfl, by decide⟩, ⟨.none, 0, 0, rfl, rfl, Nat.le_refl _, by decide, fun k h => Option.some.inj h, .inl rfl⟩⟩) rfl rfl rfl [(0, .int .u16 7), (1, v_9)] rfl ⟨_, (RepV.mkInt (by decide)), rfl, rfl, ⟨_, R_10, rfl, rfl, rfl⟩⟩ ?_)
 clear S; intro a v_13 R_14 S
 obtain ⟨t_15, et_15, h⟩ := bindS h
 refine w_go S rfl (op_call (vs := [v_13]) S rfl cb11 rfl rfl rfl (c11 (Kx K w.heap.size []) n w_12 (7, (⟨[(⟨[1, 2, 3], some 3⟩ : Sl (Int)), (⟨[9], some 1⟩ : Sl (Int))], some 2⟩ : Sl (Sl (Int)))) _ R_14 et_15) ?_)
 rintro _ w_21 ⟨v_16, v_17, rfl, R_18, R_19, hb_20⟩; refine ⟨_, rfl, ?_⟩
 replace R_18 := RepV.back R_18 W
 replace R_19 := RepV.back R_19 W
 clear S; intro a S
 replace R_2 := R_2.step hb_20
 replace R_6 := R_6.step hb_20
 replace R_10 := R_10.step hb_20
 replace R_14 := R_14.step hb_20
 replace W := W.step hb_20
 obtain ⟨rfl, GR_19⟩ := RepV.int R_19
 refine wl_pureK (l' := [(2, .int .i64 t_15.2), (1, v_16)]) S tys tys_ok 5 [2, 1] (by kernel_rfl) ?_
 clear S; intro a S
 refine wpList_nil ?_
 refine then_n ?_
 refine wp_seq ?_
 refine wp_region_lit ?_
 refine w_go S rfl (op_buildSlice (K := K) (e := (.int .i64)) (vs := [.int .i64 3, .int .i64 1]) (xs := [3, 1]) S W rfl ty27 rfl rfl (by kernel_rfl) rfl rfl rfl rfl rfl ⟨(RepV.mkInt (by decide)), (RepV.mkInt (by decide)), trivial⟩ ?_)
 clear S; intro a w_25 v_22 hb_24 R_23 S
 replace R_18 := R_18.step hb_24
 replace W := W.step hb_24
 obtain ⟨t_26, et_26, h⟩ := bindS h
 refine w_go S rfl (op_call (vs := [v_22]) S rfl cb10 rfl rfl rfl (c10 (Kx K w.heap.size []) n w_25 (⟨[3, 1], some 2⟩ : Sl (Int)) _ R_23 et_26) ?_)
 rintro _ w_32 ⟨v_27, v_28, rfl, R_29, R_30, hb_31⟩; refine ⟨_, rfl, ?_⟩
 replace R_29 := RepV.back R_29 W
 replace R_30 := RepV.back R_30 W
 clear S; intro a S
 replace R_18 := R_18.step hb_31
 replace R_23 := R_23.step hb_31
 replace W := W.step hb_31
 obtain ⟨rfl, GR_29⟩ := RepV.int R_29
 obtain ⟨rfl, GR_30⟩ := RepV.int R_30
 refine wl_pureK (l' := [(4, .int .i64 t_26.2), (3, .int .i64 t_26.1), (2, .int .i64 t_15.2), (1, v_16)]) S tys tys_ok 5 [4, 3, 2, 1] (by kernel_rfl) ?_
 clear S; intro a S
 refine wpList_nil ?_
 refine then_n ?_
 refine wp_seq ?_
 refine wp_region_lit ?_
 refine wl_pureK (l' := [(20, .bool (t_15.2 == 0)), (4, .int .i64 t_26.2), (3, .int .i64 t_26.1), (1, v_16)]) S tys tys_ok 3 [20, 4, 3, 1] (by kernel_rfl) ?_
 clear S; intro a S
 obtain ⟨q_33, eq_33, h⟩ := bindS h
 refine seg 3 (fun a_ w_ => w_32 = w_ ∧ St 33 a_ [(23, .bool q_33), (3, .int .i64 t_26.1), (1, v_16)]) ?_ ?_
 ·by_cases hc : (t_15.2 == 0) = true
  ·rw [if_pos hc] at eq_33; rw [hc] at S
   refine wl_pureK (l' := [(23, .bool (t_26.2 == 0)), (3, .int .i64 t_26.1), (1, v_16)]) S tys tys_ok 3 [23, 3, 1] (by kernel_rfl) ?_
   clear S; intro a S
   obtain rfl := Option.some.inj eq_33
   exact ⟨rfl, S.sub (by exact ⟨rfl, rfl, rfl, trivial⟩)⟩
  ·rw [if_neg hc] at eq_33; rw [show (t_15.2 == 0) = false from Bool.eq_false_iff.2 hc] at S
   refine wl_pureK (l' := [(23, .bool false), (3, .int .i64 t_26.1), (1, v_16)]) S tys tys_ok 3 [23, 3, 1] (by kernel_rfl) ?_
   clear S; intro a S
   obtain rfl := Option.some.inj eq_33
   exact ⟨rfl, S.sub (by exact ⟨rfl, rfl, rfl, trivial⟩)⟩
 clear S eq_33; rintro a _ ⟨rfl, S⟩
 refine wl_pure (l' := [(24, .bool q_33), (23, .bool q_33), (3, .int .i64 t_26.1), (1, v_16)]) S tys tys_ok 1 (by kernel_rfl) ?_
 clear S; intro a S
 obtain ⟨q_34, eq_34, h⟩ := bindS h
 refine seg 3 (fun a_ w_ => w_32 = w_ ∧ St 33 a_ [(27, .bool q_34), (1, v_16)]) ?_ ?_
 ·by_cases hc : q_33 = true
  ·rw [if_pos hc] at eq_34; rw [hc] at S
   refine wl_pureK (l' := [(27, .bool (t_26.1 == 40)), (1, v_16)]) S tys tys_ok 3 [27, 1] (by kernel_rfl) ?_
   clear S; intro a S
   obtain rfl := Option.some.inj eq_34
   exact ⟨rfl, S.sub (by exact ⟨rfl, rfl, trivial⟩)⟩
  ·rw [if_neg hc] at eq_34; rw [show q_33 = false from Bool.eq_false_iff.2 hc] at S
   refine wl_pureK (l' := [(27, .bool false), (1, v_16)]) S tys tys_ok 3 [27, 1] (by kernel_rfl) ?_
   clear S; intro a S
   obtain rfl := Option.some.inj eq_34
   exact ⟨rfl, S.sub (by exact ⟨rfl, rfl, trivial⟩)⟩
 clear S eq_34; rintro a _ ⟨rfl, S⟩
 refine wl_pure (l' := [(28, .bool q_34), (27, .bool q_34), (1, v_16)]) S tys tys_ok 1 (by kernel_rfl) ?_
 clear S; intro a S
 obtain ⟨q_35, eq_35, h⟩ := bindS h
 refine seg 4 (fun a_ w_ => w_32 = w_ ∧ St 33 a_ [(32, .bool q_35)]) ?_ ?_
 ·by_cases hc : q_34 = true
  ·rw [if_pos hc] at eq_35; rw [hc] at S
   refine wl_pure (l' := [(29, v_16), (28, .bool true), (27, .bool true), (1, v_16)]) S tys tys_ok 1 (by kernel_rfl) ?_
   clear S; intro a S
   refine w_go S rfl (op_str (K := _) S rfl ty28 ty9 rfl rfl rfl R_18 ?_)
   clear S; intro a S
   refine w_go S rfl (op_streq S rfl rfl rfl rfl (by kernel_rfl) (R_18.byt).1 ((strG ([78, 67, 77, 72, 12, 0, 7, 0, 40, 0, 20, 0, 1, 2, 3, 0, 9, 0, 0, 0, 78, 67, 77, 48, 20, 0, 0, 0, 12, 0, 3, 0, 16, 0, 1, 0, 0, 0, 0, 0]) (by decide) (by decide))).1 ?_)
   clear S; intro a S
   refine wl_pureK (l' := [(32, .bool (decide (t_15.1.xs = [78, 67, 77, 72, 12, 0, 7, 0, 40, 0, 20, 0, 1, 2, 3, 0, 9, 0, 0, 0, 78, 67, 77, 48, 20, 0, 0, 0, 12, 0, 3, 0, 16, 0, 1, 0, 0, 0, 0, 0])))]) S tys tys_ok 1 [32] (by kernel_rfl) ?_
   clear S; intro a S
   obtain rfl := Option.some.inj eq_35
   exact ⟨rfl, S.sub (by exact ⟨rfl, trivial⟩)⟩
  ·rw [if_neg hc] at eq_35; rw [show q_34 = false from Bool.eq_false_iff.2 hc] at S
   refine wl_pureK (l' := [(32, .bool false)]) S tys tys_ok 4 [32] (by kernel_rfl) ?_
   clear S; intro a S
   obtain rfl := Option.some.inj eq_35
   exact ⟨rfl, S.sub (by exact ⟨rfl, trivial⟩)⟩
 clear S eq_35; rintro a _ ⟨rfl, S⟩
 refine wl_pure (l' := [(0, .bool q_35), (32, .bool q_35)]) S tys tys_ok 1 (by kernel_rfl) ?_
 clear S; intro a S
 refine wpList_nil ?_
 refine then_n ?_
 replace S := S.sub (l' := [(0, .bool q_35)]) (by exact ⟨rfl, trivial⟩)
 refine wp_ret ?_
 obtain rfl := Option.some.inj h
 exact b_ret1 S rfl rfl ⟨_, rfl, RepV.mkBool, W.below⟩
theorem cb8 : callB Try.prog 8 = true := by kernel_rfl
def p9_l2 (n : Nat)  : Nat → (Int) → Option ((Int))
 | 0, _ => .none
 | m + 1, c_37 => (remI .i64 c_37 4).bind fun x_46 => if (x_46 != 0) then ((ckI .i64 (c_37 + 1)).bind fun x_47 => p9_l2 n m x_47) else some c_37
def p9_l1 (n : Nat) (x0 : Sl (Int)) : Nat → (Int) → (Int) → Option (((Int)) ⊕ ((Int) × (Int)))
 | 0, _, _ => .none
 | m + 1, c_1, c_3 => if (decide (c_1 < (lenI x0))) then ((idx x0.xs c_1).bind fun y_16 => (if (decide (y_16 < 1)) = false then (idx x0.xs c_1).bind fun y_23 => some (decide (y_23 > 1514)) else some true).bind fun q_22 => if q_22 then (some (.inr (0, 1))) else (ckI .i64 (c_3 + 4)).bind fun x_29 => (idx x0.xs c_1).bind fun y_30 => (ckI .i64 (x_29 + y_30)).bind fun x_36 => (p9_l2 n n x_36).bind fun (y_41 : (Int)) => (ckI .i64 (c_1 + 1)).bind fun x_49 => p9_l1 n x0 m x_49 y_41) else some (.inl c_3)
def p9 (n : Nat) (x0 : Sl (Int)) : Option ((Int) × (Int)) :=
 (p9_l1 n x0 n 0 24).bind fun (y_9 : ((Int)) ⊕ ((Int) × (Int))) =>
 lrK y_9 some fun (s_10 : (Int)) =>
 (if (decide ((lenI x0) > 64)) = false then some (decide (s_10 > 16384)) else some true).bind fun q_52 =>
 if q_52 then (some (0, 3)) else some (s_10, 0)
set_option maxHeartbeats 4000000 in
set_option maxRecDepth 100000 in
/-- plugboard/plugboardlaw43.length -/
theorem c9 (K : Nat → Prop) (n : Nat) (w : World) (x0 : Sl (Int)) (v0 : Value) (R0 : RepV (.sl (.int .i64)) w K v0 x0) {r : (Int) × (Int)} (h : p9 n x0 = some r) :
  Calls Try.prog 9 #[v0] w (Ret2 (.int .i64) (.int .i64) w (Kx K w.heap.size []) r) := by
 refine enter (args := [v0]) Try.func9 rfl 44 rfl rfl fun a S => ?_
 have W := Wd.start w
 replace R0 := R0.arg
 unfold p9 at h
 replace S : St 44 a [(0, v0)] := S
 refine wp_seq ?_
 refine wp_region_lit ?_
 refine wl_pure (l' := [(3, .int .i64 0), (2, .int .i64 0), (0, v0)]) S tys tys_ok 2 (by kernel_rfl) ?_
 clear S; intro a S
 refine wpList_nil ?_
 refine then_n ?_
 replace S := S.sub (l' := [(0, v0)]) (by exact ⟨rfl, trivial⟩)
 refine wp_seq ?_
 refine wp_region_lit ?_
 refine wl_pure (l' := [(4, .int .i64 24), (0, v0)]) S tys tys_ok 1 (by kernel_rfl) ?_
 clear S; intro a S
 refine wpList_nil ?_
 refine then_n ?_
 refine wp_seq ?_
 refine wp_seq ?_
 refine wp_region_lit ?_
 refine wl_pure (l' := [(5, .int .i64 0), (4, .int .i64 24), (0, v0)]) S tys tys_ok 1 (by kernel_rfl) ?_
 clear S; intro a S
 refine wpList_nil ?_
 refine then_n ?_
 obtain ⟨y_9, ey_9, h⟩ := bindS h
 refine wp_cut_ (fun a_ w_ => ∃ s_10 : (Int), y_9 = .inl s_10 ∧ (St 44 a_ [(0, v0), (4, .int .i64 s_10)] ∧ Wd w w_ [] ∧ InR .i64 s_10 ∧ RepV (.sl (.int .i64)) w_ (Kx K w.heap.size []) v0 x0)) ?_ ?_
 ·refine wp_block ?_
  refine wp_loop_n (fun m_ a_ w_ => ∃ (c_1 : Int) (c_3 : Int) , St 44 a_ [(5, .int .i64 c_1), (4, .int .i64 c_3), (0, v0)] ∧ Wd w w_ [] ∧ InR .i64 c_1 ∧ InR .i64 c_3 ∧ RepV (.sl (.int .i64)) w_ (Kx K w.heap.size []) v0 x0 ∧ p9_l1 n x0 m_ c_1 c_3 = some y_9) n ?_ ?_
  ·skip
   exact ⟨0, 24, ⟨S.sub (by exact ⟨rfl, rfl, rfl, trivial⟩), W, (by decide), (by decide), R0, ey_9⟩⟩
  ·clear S W; rintro m_12 a w_14 ⟨c_1, c_3, S, W, G_2, G_4, R0, hl_13⟩
   cases m_12 with
   | zero => exact absurd hl_13 (by simp [p9_l1])
   | succ m_12 =>
    refine ⟨m_12, rfl, ?_⟩
    rw [p9_l1] at hl_13
    refine wp_seq ?_
    refine wp_seq ?_
    refine wp_region_lit ?_
    refine wl_pure (l' := [(7, v0), (6, .int .i64 c_1), (5, .int .i64 c_1), (4, .int .i64 c_3), (0, v0)]) S tys tys_ok 2 (by kernel_rfl) ?_
    clear S; intro a S
    refine w_go S rfl (op_len (K := _) S rfl ty27 rfl rfl rfl R0 ?_)
    clear S; intro a G_15 S
    refine wl_pureK (l' := [(9, .bool (decide (c_1 < (lenI x0)))), (5, .int .i64 c_1), (4, .int .i64 c_3), (0, v0)]) S tys tys_ok 1 [9, 5, 4, 0] (by kernel_rfl) ?_
    clear S; intro a S
    refine wpList_nil ?_
    refine then_n ?_
    refine wp_cond_split (S.eval (show ev _ _ = some (.bool (decide (c_1 < (lenI x0)))) from rfl)) ?_ ?_
    ·intro hc
     rw [if_pos hc] at hl_13
     refine wp_skip ?_
     refine then_n ?_
     replace S := S.sub (l' := [(5, .int .i64 c_1), (4, .int .i64 c_3), (0, v0)]) (by exact ⟨rfl, rfl, rfl, trivial⟩)
     refine wp_seq ?_
     refine wp_block ?_
     refine wp_seq ?_
     refine wp_seq ?_
     refine wp_region_lit ?_
     refine wl_pure (l' := [(13, .int .i64 c_1), (12, v0), (5, .int .i64 c_1), (4, .int .i64 c_3), (0, v0)]) S tys tys_ok 2 (by kernel_rfl) ?_
     clear S; intro a S
     obtain ⟨y_16, ey_16, hl_13⟩ := bindS hl_13
     refine w_go S rfl (op_indexAddr S rfl ty27 rfl rfl rfl R0 rfl ey_16 ?_)
     clear S; intro a p_17 R_18 H_19 S
     refine w_go S rfl (op_load (t := (.int .i64)) (x := y_16) S rfl ty3 rfl rfl rfl R_18 ?_)
     clear S; intro a v_20 R_21 S
     obtain ⟨rfl, GR_21⟩ := RepV.int R_21
     refine wl_pureK (l' := [(17, .bool (decide (y_16 < 1))), (5, .int .i64 c_1), (4, .int .i64 c_3), (0, v0)]) S tys tys_ok 2 [17, 5, 4, 0] (by kernel_rfl) ?_
     clear S; intro a S
     obtain ⟨q_22, eq_22, hl_13⟩ := bindS hl_13
     refine seg 6 (fun a_ w_ => w_14 = w_ ∧ St 44 a_ [(23, .bool q_22), (5, .int .i64 c_1), (4, .int .i64 c_3), (0, v0)]) ?_ ?_
     ·by_cases hc : (decide (y_16 < 1)) = false
      ·rw [if_pos hc] at eq_22; rw [hc] at S
       refine wl_pure (l' := [(19, .int .i64 c_1), (18, v0), (17, .bool false), (5, .int .i64 c_1), (4, .int .i64 c_3), (0, v0)]) S tys tys_ok 2 (by kernel_rfl) ?_
       clear S; intro a S
       obtain ⟨y_23, ey_23, eq_22⟩ := bindS eq_22
       refine w_go S rfl (op_indexAddr S rfl ty27 rfl rfl rfl R0 rfl ey_23 ?_)
       clear S; intro a p_24 R_25 H_26 S
       refine w_go S rfl (op_load (t := (.int .i64)) (x := y_23) S rfl ty3 rfl rfl rfl R_25 ?_)
       clear S; intro a v_27 R_28 S
       obtain ⟨rfl, GR_28⟩ := RepV.int R_28
       refine wl_pure (l' := [(23, .bool (decide (y_23 > 1514))), (22, .bool (decide (y_23 > 1514))), (21, .int .i64 y_23), (20, .pointer (some p_24)), (19, .int .i64 c_1), (18, v0), (17, .bool false), (5, .int .i64 c_1), (4, .int .i64 c_3), (0, v0)]) S tys tys_ok 2 (by kernel_rfl) ?_
       clear S; intro a S
       obtain rfl := Option.some.inj eq_22
       exact ⟨rfl, S.sub (by exact ⟨rfl, rfl, rfl, rfl, trivial⟩)⟩
      ·rw [if_neg hc] at eq_22; rw [show (decide (y_16 < 1)) = true from (by simpa using hc)] at S
       refine wl_pure (l' := [(23, .bool true), (22, undef), (21, undef), (20, undef), (19, undef), (18, undef), (17, .bool true), (5, .int .i64 c_1), (4, .int .i64 c_3), (0, v0)]) S tys tys_ok 6 (by kernel_rfl) ?_
       clear S; intro a S
       obtain rfl := Option.some.inj eq_22
       exact ⟨rfl, S.sub (by exact ⟨rfl, rfl, rfl, rfl, trivial⟩)⟩
     clear S eq_22; rintro a _ ⟨rfl, S⟩
     refine wpList_nil ?_
     refine then_n ?_
     refine wp_cond_split (S.eval (show ev _ _ = some (.bool q_22) from rfl)) ?_ ?_
     ·intro hc
      rw [if_pos hc] at hl_13
      refine wp_seq ?_
      refine wp_region_lit ?_
      refine wl_pureK (l' := [(3, .int .i64 1), (2, .int .i64 0)]) S tys tys_ok 2 [3, 2] (by kernel_rfl) ?_
      clear S; intro a S
      refine wpList_nil ?_
      refine then_n ?_
      refine wp_ret ?_
      refine then_r ?_
      refine blk_r ?_
      refine then_r ?_
      refine then_r ?_
      refine blk_r ?_
      refine then_r ?_
      refine then_r ?_
      obtain rfl := Option.some.inj hl_13
      obtain rfl := lr_inr h
      exact b_ret2 S rfl rfl rfl ⟨_, _, rfl, (RepV.mkInt (by decide)), (RepV.mkInt (by decide)), W.below⟩
     ·intro hc
      rw [if_neg (Bool.eq_false_iff.1 hc)] at hl_13
      refine wp_skip ?_
      refine then_n ?_
      replace S := S.sub (l' := [(5, .int .i64 c_1), (4, .int .i64 c_3), (0, v0)]) (by exact ⟨rfl, rfl, rfl, trivial⟩)
      refine wp_seq ?_
      refine wp_region_lit ?_
      refine wl_pure (l' := [(24, .int .i64 c_3), (5, .int .i64 c_1), (4, .int .i64 c_3), (0, v0)]) S tys tys_ok 1 (by kernel_rfl) ?_
      clear S; intro a S
      obtain ⟨x_29, ex_29, hl_13⟩ := bindS hl_13
      refine w_go S rfl (op_arith S .i64 (c_3 + 4) rfl (.inl rfl) rfl rfl rfl rfl ex_29 ?_)
      clear S; intro a S
      refine wl_pure (l' := [(27, .int .i64 c_1), (26, v0), (25, .int .i64 x_29), (24, .int .i64 c_3), (5, .int .i64 c_1), (4, .int .i64 c_3), (0, v0)]) S tys tys_ok 2 (by kernel_rfl) ?_
      clear S; intro a S
      obtain ⟨y_30, ey_30, hl_13⟩ := bindS hl_13
      refine w_go S rfl (op_indexAddr S rfl ty27 rfl rfl rfl R0 rfl ey_30 ?_)
      clear S; intro a p_31 R_32 H_33 S
      refine w_go S rfl (op_load (t := (.int .i64)) (x := y_30) S rfl ty3 rfl rfl rfl R_32 ?_)
      clear S; intro a v_34 R_35 S
      obtain ⟨rfl, GR_35⟩ := RepV.int R_35
      obtain ⟨x_36, ex_36, hl_13⟩ := bindS hl_13
      refine w_go S rfl (op_arith S .i64 (x_29 + y_30) rfl (.inl rfl) rfl rfl rfl rfl ex_36 ?_)
      clear S; intro a S
      refine wl_pureK (l' := [(4, .int .i64 x_36), (5, .int .i64 c_1), (4, .int .i64 c_3), (0, v0)]) S tys tys_ok 1 [4, 5, 0] (by kernel_rfl) ?_
      clear S; intro a S
      refine wpList_nil ?_
      refine then_n ?_
      obtain ⟨y_41, ey_41, hl_13⟩ := bindS hl_13
      refine wp_cut_ (fun a_ w_ => St 44 a_ [(0, v0), (4, .int .i64 y_41), (5, .int .i64 c_1)] ∧ Wd w w_ [] ∧ InR .i64 y_41 ∧ RepV (.sl (.int .i64)) w_ (Kx K w.heap.size []) v0 x0) ?_ ?_
      ·refine wp_block ?_
       refine wp_loop_n (fun m_ a_ w_ => ∃ (c_37 : Int) , St 44 a_ [(4, .int .i64 c_37), (5, .int .i64 c_1), (0, v0)] ∧ Wd w w_ [] ∧ InR .i64 c_37 ∧ RepV (.sl (.int .i64)) w_ (Kx K w.heap.size []) v0 x0 ∧ p9_l2 n m_ c_37 = some y_41) n ?_ ?_
       ·skip
        exact ⟨x_36, ⟨S.sub (by exact ⟨rfl, rfl, rfl, trivial⟩), W, (ckI_some ex_36).2.1, R0, ey_41⟩⟩
       ·clear S W; rintro m_43 a w_45 ⟨c_37, S, W, G_38, R0, hl_44⟩
        cases m_43 with
        | zero => exact absurd hl_44 (by simp [p9_l2])
        | succ m_43 =>
         refine ⟨m_43, rfl, ?_⟩
         rw [p9_l2] at hl_44
         refine wp_seq ?_
         refine wp_seq ?_
         refine wp_region_lit ?_
         refine wl_pure (l' := [(31, .int .i64 c_37), (4, .int .i64 c_37), (5, .int .i64 c_1), (0, v0)]) S tys tys_ok 1 (by kernel_rfl) ?_
         clear S; intro a S
         obtain ⟨x_46, ex_46, hl_44⟩ := bindS hl_44
         refine w_go S rfl (op_rem S .i64 rfl rfl rfl rfl rfl ex_46 ?_)
         clear S; intro a S
         refine wl_pure (l' := [(33, .bool (x_46 != 0)), (32, .int .i64 x_46), (31, .int .i64 c_37), (4, .int .i64 c_37), (5, .int .i64 c_1), (0, v0)]) S tys tys_ok 1 (by kernel_rfl) ?_
         clear S; intro a S
         refine wpList_nil ?_
         refine then_n ?_
         replace S := S.sub (l' := [(33, .bool (x_46 != 0)), (4, .int .i64 c_37), (5, .int .i64 c_1), (0, v0)]) (by exact ⟨rfl, rfl, rfl, rfl, trivial⟩)
         refine wp_cond_split (S.eval (show ev _ _ = some (.bool (x_46 != 0)) from rfl)) ?_ ?_
         ·intro hc
          rw [if_pos hc] at hl_44
          refine wp_skip ?_
          refine then_n ?_
          replace S := S.sub (l' := [(4, .int .i64 c_37), (5, .int .i64 c_1), (0, v0)]) (by exact ⟨rfl, rfl, rfl, trivial⟩)
          refine wp_block ?_
          refine wp_region_lit ?_
          refine wl_pure (l' := [(34, .int .i64 c_37), (4, .int .i64 c_37), (5, .int .i64 c_1), (0, v0)]) S tys tys_ok 1 (by kernel_rfl) ?_
          clear S; intro a S
          obtain ⟨x_47, ex_47, hl_44⟩ := bindS hl_44
          refine w_go S rfl (op_arith S .i64 (c_37 + 1) rfl (.inl rfl) rfl rfl rfl rfl ex_47 ?_)
          clear S; intro a S
          refine wl_pure (l' := [(4, .int .i64 x_47), (35, .int .i64 x_47), (34, .int .i64 c_37), (4, .int .i64 c_37), (5, .int .i64 c_1), (0, v0)]) S tys tys_ok 1 (by kernel_rfl) ?_
          clear S; intro a S
          refine wpList_nil ?_
          refine blk_n ?_
          refine then_n ?_
          exact ⟨x_47, ⟨S.sub (by exact ⟨rfl, rfl, rfl, trivial⟩), W, (ckI_some ex_47).2.1, R0, hl_44⟩⟩
         ·intro hc
          rw [if_neg (Bool.eq_false_iff.1 hc)] at hl_44
          refine wp_exit ?_
          refine then_x ?_
          refine then_x ?_
          refine blk_hit ?_
          refine then_n ?_
          obtain rfl := Option.some.inj hl_44
          exact ⟨S.sub (by exact ⟨rfl, rfl, rfl, trivial⟩), W, G_38, R0⟩
      clear S W; rintro a w_48 ⟨S, W, G_42, R0⟩
      refine blk_n ?_
      refine then_n ?_
      refine wp_region_lit ?_
      refine wl_pure (l' := [(10, .int .i64 c_1), (0, v0), (4, .int .i64 y_41), (5, .int .i64 c_1)]) S tys tys_ok 1 (by kernel_rfl) ?_
      clear S; intro a S
      obtain ⟨x_49, ex_49, hl_13⟩ := bindS hl_13
      refine w_go S rfl (op_arith S .i64 (c_1 + 1) rfl (.inl rfl) rfl rfl rfl rfl ex_49 ?_)
      clear S; intro a S
      refine wl_pure (l' := [(5, .int .i64 x_49), (11, .int .i64 x_49), (10, .int .i64 c_1), (0, v0), (4, .int .i64 y_41), (5, .int .i64 c_1)]) S tys tys_ok 1 (by kernel_rfl) ?_
      clear S; intro a S
      refine wpList_nil ?_
      refine then_n ?_
      exact ⟨x_49, y_41, ⟨S.sub (by exact ⟨rfl, rfl, rfl, trivial⟩), W, (ckI_some ex_49).2.1, G_42, R0, hl_13⟩⟩
    ·intro hc
     rw [if_neg (Bool.eq_false_iff.1 hc)] at hl_13
     refine wp_exit ?_
     refine then_x ?_
     refine then_x ?_
     refine blk_hit ?_
     refine then_n ?_
     obtain rfl := Option.some.inj hl_13
     exact ⟨_, rfl, ⟨S.sub (by exact ⟨rfl, rfl, trivial⟩), W, G_4, R0⟩⟩
 clear S W; rintro a w_50 ⟨s_10, rfl, S, W, G_11, R0⟩
 replace h := lr_inl h; try dsimp only at h
 refine then_n ?_
 refine wp_seq ?_
 refine wp_seq ?_
 refine wp_region_lit ?_
 refine wl_pure (l' := [(36, v0), (0, v0), (4, .int .i64 s_10)]) S tys tys_ok 1 (by kernel_rfl) ?_
 clear S; intro a S
 refine w_go S rfl (op_len (K := _) S rfl ty27 rfl rfl rfl R0 ?_)
 clear S; intro a G_51 S
 refine wl_pureK (l' := [(39, .bool (decide ((lenI x0) > 64))), (4, .int .i64 s_10)]) S tys tys_ok 2 [39, 4] (by kernel_rfl) ?_
 clear S; intro a S
 obtain ⟨q_52, eq_52, h⟩ := bindS h
 refine seg 3 (fun a_ w_ => w_50 = w_ ∧ St 44 a_ [(42, .bool q_52), (4, .int .i64 s_10)]) ?_ ?_
 ·by_cases hc : (decide ((lenI x0) > 64)) = false
  ·rw [if_pos hc] at eq_52; rw [hc] at S
   refine wl_pureK (l' := [(42, .bool (decide (s_10 > 16384))), (4, .int .i64 s_10)]) S tys tys_ok 3 [42, 4] (by kernel_rfl) ?_
   clear S; intro a S
   obtain rfl := Option.some.inj eq_52
   exact ⟨rfl, S.sub (by exact ⟨rfl, rfl, trivial⟩)⟩
  ·rw [if_neg hc] at eq_52; rw [show (decide ((lenI x0) > 64)) = true from (by simpa using hc)] at S
   refine wl_pureK (l' := [(42, .bool true), (4, .int .i64 s_10)]) S tys tys_ok 3 [42, 4] (by kernel_rfl) ?_
   clear S; intro a S
   obtain rfl := Option.some.inj eq_52
   exact ⟨rfl, S.sub (by exact ⟨rfl, rfl, trivial⟩)⟩
 clear S eq_52; rintro a _ ⟨rfl, S⟩
 refine wpList_nil ?_
 refine then_n ?_
 refine wp_cond_split (S.eval (show ev _ _ = some (.bool q_52) from rfl)) ?_ ?_
 ·intro hc
  rw [if_pos hc] at h
  refine wp_seq ?_
  refine wp_region_lit ?_
  refine wl_pure (l' := [(3, .int .i64 3), (2, .int .i64 0), (42, .bool q_52), (4, .int .i64 s_10)]) S tys tys_ok 2 (by kernel_rfl) ?_
  clear S; intro a S
  refine wpList_nil ?_
  refine then_n ?_
  replace S := S.sub (l' := [(3, .int .i64 3), (2, .int .i64 0)]) (by exact ⟨rfl, rfl, trivial⟩)
  refine wp_ret ?_
  refine then_r ?_
  obtain rfl := Option.some.inj h
  exact b_ret2 S rfl rfl rfl ⟨_, _, rfl, (RepV.mkInt (by decide)), (RepV.mkInt (by decide)), W.below⟩
 ·intro hc
  rw [if_neg (Bool.eq_false_iff.1 hc)] at h
  refine wp_skip ?_
  refine then_n ?_
  replace S := S.sub (l' := [(4, .int .i64 s_10)]) (by exact ⟨rfl, trivial⟩)
  refine wp_seq ?_
  refine wp_region_lit ?_
  refine wl_pure (l' := [(3, .int .i64 0), (2, .int .i64 s_10), (43, .int .i64 s_10), (4, .int .i64 s_10)]) S tys tys_ok 3 (by kernel_rfl) ?_
  clear S; intro a S
  refine wpList_nil ?_
  refine then_n ?_
  replace S := S.sub (l' := [(3, .int .i64 0), (2, .int .i64 s_10)]) (by exact ⟨rfl, rfl, trivial⟩)
  refine wp_ret ?_
  obtain rfl := Option.some.inj h
  exact b_ret2 S rfl rfl rfl ⟨_, _, rfl, (RepV.mkInt G_11), (RepV.mkInt (by decide)), W.below⟩
theorem cb9 : callB Try.prog 9 = true := by kernel_rfl
def p25 (n : Nat) (x0 : Int) (y0 : Sl (Int)) : Option ((Int)) :=
 (idx y0.xs x0).bind fun y_3 =>
 (ckI .i64 (x0 + 1)).bind fun x_11 =>
 (idx y0.xs x_11).bind fun y_12 =>
 (shlI .i64 y_12 8).bind fun x_18 =>
 some (bitsI .or .i64 y_3 x_18)
set_option maxHeartbeats 4000000 in
set_option maxRecDepth 100000 in
/-- plugboard/networks.Decode$1 -/
theorem c25 (K : Nat → Prop) (n : Nat) (w : World) (x0 : Int) (G0 : InR .i64 x0) (q0 : Addr) (y0 : Sl (Int)) (Q0 : Br (.sl (.int .u8)) w K q0 y0) {r : (Int)} (h : p25 n x0 y0 = some r) :
  Calls Try.prog 25 #[.int .i64 x0, .pointer (some q0)] w (Ret1 (.int .i64) w (Kx K w.heap.size []) r) := by
 refine enter (args := [.int .i64 x0, .pointer (some q0)]) Try.func25 rfl 17 rfl rfl fun a S => ?_
 have W := Wd.start w
 unfold p25 at h
 replace S : St 17 a [(0, .int .i64 x0), (1, .pointer (some q0))] := S
 refine wp_seq ?_
 refine wp_region_lit ?_
 refine wl_pure (l' := [(3, .int .i64 0), (0, .int .i64 x0), (1, .pointer (some q0))]) S tys tys_ok 1 (by kernel_rfl) ?_
 clear S; intro a S
 refine wpList_nil ?_
 refine then_n ?_
 replace S := S.sub (l' := [(0, .int .i64 x0), (1, .pointer (some q0))]) (by exact ⟨rfl, rfl, trivial⟩)
 refine wp_seq ?_
 obtain ⟨y_3, ey_3, h⟩ := bindS h
 obtain ⟨x_11, ex_11, h⟩ := bindS h
 obtain ⟨y_12, ey_12, h⟩ := bindS h
 obtain ⟨x_18, ex_18, h⟩ := bindS h
 have hR : Rel (Kx K w.heap.size []) Bl := Bl.rel _
 refine wp_region_all hR [isRep (.sl (.int .u8)) (Kx K w.heap.size []) y0, isI .i64 x0, isEl (.int .u8) (Kx K w.heap.size []) y_3, isI .u8 y_3, isI .i64 y_3, isRep (.sl (.int .u8)) (Kx K w.heap.size []) y0, isI .i64 x0, isI .i64 x_11, isEl (.int .u8) (Kx K w.heap.size []) y_12, isI .u8 y_12, isI .i64 y_12, isI .i64 x_18, isI .i64 (bitsI .or .i64 y_3 x_18), isI .i64 (bitsI .or .i64 y_3 x_18)] [[], [], [(0, 4), (1, 5)], [(2, 6)], [(3, 7)], [], [], [(6, 10)], [(5, 9), (7, 11)], [(8, 12)], [(9, 13)], [(10, 14)], [(4, 8), (11, 15)], [(12, 16)]] (by kernel_rfl) (by rw [S.size]; kernel_rfl) (by kernel_rfl) (by kernel_rfl) rfl ⟨(stab_rep hR), stab_I, (stab_el hR), stab_I, stab_I, (stab_rep hR), stab_I, stab_I, (stab_el hR), stab_I, stab_I, stab_I, stab_I, stab_I, trivial⟩ ?_ ?_
 ·
  refine RunAll.cons (isRep (.sl (.int .u8)) (Kx K w.heap.size []) y0) [] rfl rfl ?_ ?_
  ·intro W_ hW
   have S1 := S
   refine fill_nil S1 ?_; clear S1; intro a_ S1
   replace W := W.step hW
   have S0 := S.defers; replace S := S1; clear S1
   refine w_go S rfl (op_load (t := (.sl (.int .u8))) (x := y0) S rfl ty28 rfl rfl rfl (Br.now Q0 W) ?_)
   clear S; intro a v_19 R_20 S
   refine wpList_nil ?_
   exact RPost.mk_ S rfl S0 R_20 (Below.refl _ _)
  refine RunAll.cons (isI .i64 x0) [] rfl rfl ?_ ?_
  ·intro W_ hW
   have S1 := S
   exact RPost.one (v := .int .i64 x0) S1 tys tys_ok rfl (by kernel_rfl) S.defers ⟨rfl, G0⟩ (Below.refl _ _)
  refine RunAll.cons (isEl (.int .u8) (Kx K w.heap.size []) y_3) [(isRep (.sl (.int .u8)) (Kx K w.heap.size []) y0, 4), (isI .i64 x0, 5)] rfl rfl ?_ ?_
  ·intro W_ hW
   have S1 := S
   intro v_22 hF_21; replace hF_21 : RepV _ _ _ _ _ := hF_21
   replace S1 := S1.put (by decide : 4 < 17) (v_22)
   rintro _ ⟨rfl, hF_23⟩
   replace S1 := S1.put (by decide : 5 < 17) (.int .i64 x0)
   refine fill_nil S1 ?_; clear S1; intro a_ S1
   replace W := W.step hW
   have S0 := S.defers; replace S := S1; clear S1
   refine w_go S rfl (op_indexAddr S rfl ty28 rfl rfl rfl hF_21 rfl ey_3 ?_)
   clear S; intro a p_25 R_26 H_27 S
   refine wpList_nil ?_
   exact RPost.mk_ S rfl S0 ⟨_, rfl, R_26, H_27⟩ (Below.refl _ _)
  refine RunAll.cons (isI .u8 y_3) [(isEl (.int .u8) (Kx K w.heap.size []) y_3, 6)] rfl rfl ?_ ?_
  ·intro W_ hW
   have S1 := S
   rintro _ ⟨p_30, rfl, R_31, H_32⟩
   replace S1 := S1.put (by decide : 6 < 17) (.pointer (some p_30))
   refine fill_nil S1 ?_; clear S1; intro a_ S1
   have S0 := S.defers; replace S := S1; clear S1
   refine w_go S rfl (op_load (t := (.int .u8)) (x := y_3) S rfl ty5 rfl rfl rfl R_31 ?_)
   clear S; intro a v_33 R_34 S
   obtain ⟨rfl, GR_34⟩ := RepV.int R_34
   refine wpList_nil ?_
   exact RPost.mk_ S rfl S0 ⟨rfl, GR_34⟩ (Below.refl _ _)
  refine RunAll.cons (isI .i64 y_3) [(isI .u8 y_3, 7)] rfl rfl ?_ ?_
  ·intro W_ hW
   have S1 := S
   rintro _ ⟨rfl, hF_35⟩
   replace S1 := S1.put (by decide : 7 < 17) (.int .u8 y_3)
   refine fill_nil S1 ?_; clear S1; intro a_ S1
   replace W := W.step hW
   have S0 := S.defers; replace S := S1; clear S1
   refine w_go S rfl (op_conv S .i64 .bool .bool rfl ty5 ty3 rfl rfl rfl (widen hF_35 (by decide)).1 ?_)
   clear S; intro a S
   refine wpList_nil ?_
   exact RPost.mk_ S rfl S0 ⟨rfl, (widen hF_35 (by decide)).2⟩ (Below.refl _ _)
  refine RunAll.cons (isRep (.sl (.int .u8)) (Kx K w.heap.size []) y0) [] rfl rfl ?_ ?_
  ·intro W_ hW
   have S1 := S
   refine fill_nil S1 ?_; clear S1; intro a_ S1
   replace W := W.step hW
   have S0 := S.defers; replace S := S1; clear S1
   refine w_go S rfl (op_load (t := (.sl (.int .u8))) (x := y0) S rfl ty28 rfl rfl rfl (Br.now Q0 W) ?_)
   clear S; intro a v_37 R_38 S
   refine wpList_nil ?_
   exact RPost.mk_ S rfl S0 R_38 (Below.refl _ _)
  refine RunAll.cons (isI .i64 x0) [] rfl rfl ?_ ?_
  ·intro W_ hW
   have S1 := S
   exact RPost.one (v := .int .i64 x0) S1 tys tys_ok rfl (by kernel_rfl) S.defers ⟨rfl, G0⟩ (Below.refl _ _)
  refine RunAll.cons (isI .i64 x_11) [(isI .i64 x0, 10)] rfl rfl ?_ ?_
  ·intro W_ hW
   have S1 := S
   rintro _ ⟨rfl, hF_39⟩
   replace S1 := S1.put (by decide : 10 < 17) (.int .i64 x0)
   refine fill_nil S1 ?_; clear S1; intro a_ S1
   have S0 := S.defers; replace S := S1; clear S1
   refine w_go S rfl (op_arith S .i64 (x0 + 1) rfl (.inl rfl) rfl rfl rfl rfl ex_11 ?_)
   clear S; intro a S
   refine wpList_nil ?_
   exact RPost.mk_ S rfl S0 ⟨rfl, (ckI_some ex_11).2.1⟩ (Below.refl _ _)
  refine RunAll.cons (isEl (.int .u8) (Kx K w.heap.size []) y_12) [(isRep (.sl (.int .u8)) (Kx K w.heap.size []) y0, 9), (isI .i64 x_11, 11)] rfl rfl ?_ ?_
  ·intro W_ hW
   have S1 := S
   intro v_42 hF_41; replace hF_41 : RepV _ _ _ _ _ := hF_41
   replace S1 := S1.put (by decide : 9 < 17) (v_42)
   rintro _ ⟨rfl, hF_43⟩
   replace S1 := S1.put (by decide : 11 < 17) (.int .i64 x_11)
   refine fill_nil S1 ?_; clear S1; intro a_ S1
   replace W := W.step hW
   have S0 := S.defers; replace S := S1; clear S1
   refine w_go S rfl (op_indexAddr S rfl ty28 rfl rfl rfl hF_41 rfl ey_12 ?_)
   clear S; intro a p_45 R_46 H_47 S
   refine wpList_nil ?_
   exact RPost.mk_ S rfl S0 ⟨_, rfl, R_46, H_47⟩ (Below.refl _ _)
  refine RunAll.cons (isI .u8 y_12) [(isEl (.int .u8) (Kx K w.heap.size []) y_12, 12)] rfl rfl ?_ ?_
  ·intro W_ hW
   have S1 := S
   rintro _ ⟨p_50, rfl, R_51, H_52⟩
   replace S1 := S1.put (by decide : 12 < 17) (.pointer (some p_50))
   refine fill_nil S1 ?_; clear S1; intro a_ S1
   have S0 := S.defers; replace S := S1; clear S1
   refine w_go S rfl (op_load (t := (.int .u8)) (x := y_12) S rfl ty5 rfl rfl rfl R_51 ?_)
   clear S; intro a v_53 R_54 S
   obtain ⟨rfl, GR_54⟩ := RepV.int R_54
   refine wpList_nil ?_
   exact RPost.mk_ S rfl S0 ⟨rfl, GR_54⟩ (Below.refl _ _)
  refine RunAll.cons (isI .i64 y_12) [(isI .u8 y_12, 13)] rfl rfl ?_ ?_
  ·intro W_ hW
   have S1 := S
   rintro _ ⟨rfl, hF_55⟩
   replace S1 := S1.put (by decide : 13 < 17) (.int .u8 y_12)
   refine fill_nil S1 ?_; clear S1; intro a_ S1
   replace W := W.step hW
   have S0 := S.defers; replace S := S1; clear S1
   refine w_go S rfl (op_conv S .i64 .bool .bool rfl ty5 ty3 rfl rfl rfl (widen hF_55 (by decide)).1 ?_)
   clear S; intro a S
   refine wpList_nil ?_
   exact RPost.mk_ S rfl S0 ⟨rfl, (widen hF_55 (by decide)).2⟩ (Below.refl _ _)
  refine RunAll.cons (isI .i64 x_18) [(isI .i64 y_12, 14)] rfl rfl ?_ ?_
  ·intro W_ hW
   have S1 := S
   rintro _ ⟨rfl, hF_57⟩
   replace S1 := S1.put (by decide : 14 < 17) (.int .i64 y_12)
   refine fill_nil S1 ?_; clear S1; intro a_ S1
   have S0 := S.defers; replace S := S1; clear S1
   refine w_go S rfl (op_shl S .i64 .u64 rfl rfl rfl rfl rfl ex_18 ?_)
   clear S; intro a S
   refine wpList_nil ?_
   exact RPost.mk_ S rfl S0 ⟨rfl, (inR_shl ex_18)⟩ (Below.refl _ _)
  refine RunAll.cons (isI .i64 (bitsI .or .i64 y_3 x_18)) [(isI .i64 y_3, 8), (isI .i64 x_18, 15)] rfl rfl ?_ ?_
  ·intro W_ hW
   have S1 := S
   rintro _ ⟨rfl, hF_59⟩
   replace S1 := S1.put (by decide : 8 < 17) (.int .i64 y_3)
   rintro _ ⟨rfl, hF_61⟩
   replace S1 := S1.put (by decide : 15 < 17) (.int .i64 x_18)
   exact RPost.one (v := .int .i64 (bitsI .or .i64 y_3 x_18)) S1 tys tys_ok rfl (by kernel_rfl) S.defers ⟨rfl, inR_bits⟩ (Below.refl _ _)
  refine RunAll.cons (isI .i64 (bitsI .or .i64 y_3 x_18)) [(isI .i64 (bitsI .or .i64 y_3 x_18), 16)] rfl rfl ?_ ?_
  ·intro W_ hW
   have S1 := S
   rintro _ ⟨rfl, hF_63⟩
   replace S1 := S1.put (by decide : 16 < 17) (.int .i64 (bitsI .or .i64 y_3 x_18))
   exact RPost.one (v := .int .i64 (bitsI .or .i64 y_3 x_18)) S1 tys tys_ok rfl (by kernel_rfl) S.defers ⟨rfl, hF_63⟩ (Below.refl _ _)
  exact trivial
 intro w_65 hb_66
 refine EndE.some_ rfl ?_
 intro v_68 hF_67; replace hF_67 : RepV _ _ _ _ _ := hF_67
 replace S := S.put (by decide : 4 < 17) (v_68)
 refine EndE.some_ rfl ?_
 rintro _ ⟨rfl, hF_69⟩
 replace S := S.put (by decide : 5 < 17) (.int .i64 x0)
 refine EndE.some_ rfl ?_
 rintro _ ⟨p_73, rfl, R_74, H_75⟩
 replace S := S.put (by decide : 6 < 17) (.pointer (some p_73))
 refine EndE.some_ rfl ?_
 rintro _ ⟨rfl, hF_76⟩
 replace S := S.put (by decide : 7 < 17) (.int .u8 y_3)
 refine EndE.some_ rfl ?_
 rintro _ ⟨rfl, hF_78⟩
 replace S := S.put (by decide : 8 < 17) (.int .i64 y_3)
 refine EndE.some_ rfl ?_
 intro v_81 hF_80; replace hF_80 : RepV _ _ _ _ _ := hF_80
 replace S := S.put (by decide : 9 < 17) (v_81)
 refine EndE.some_ rfl ?_
 rintro _ ⟨rfl, hF_82⟩
 replace S := S.put (by decide : 10 < 17) (.int .i64 x0)
 refine EndE.some_ rfl ?_
 rintro _ ⟨rfl, hF_84⟩
 replace S := S.put (by decide : 11 < 17) (.int .i64 x_11)
 refine EndE.some_ rfl ?_
 rintro _ ⟨p_88, rfl, R_89, H_90⟩
 replace S := S.put (by decide : 12 < 17) (.pointer (some p_88))
 refine EndE.some_ rfl ?_
 rintro _ ⟨rfl, hF_91⟩
 replace S := S.put (by decide : 13 < 17) (.int .u8 y_12)
 refine EndE.some_ rfl ?_
 rintro _ ⟨rfl, hF_93⟩
 replace S := S.put (by decide : 14 < 17) (.int .i64 y_12)
 refine EndE.some_ rfl ?_
 rintro _ ⟨rfl, hF_95⟩
 replace S := S.put (by decide : 15 < 17) (.int .i64 x_18)
 refine EndE.some_ rfl ?_
 rintro _ ⟨rfl, hF_97⟩
 replace S := S.put (by decide : 16 < 17) (.int .i64 (bitsI .or .i64 y_3 x_18))
 refine EndE.some_ rfl ?_
 rintro _ ⟨rfl, hF_99⟩
 replace S := S.put (by decide : 3 < 17) (.int .i64 (bitsI .or .i64 y_3 x_18))
 refine endE_nil S ?_; clear S; intro a S
 replace W := W.step hb_66
 refine then_n ?_
 replace S := S.sub (l' := [(3, .int .i64 (bitsI .or .i64 y_3 x_18))]) (by exact ⟨rfl, trivial⟩)
 refine wp_ret ?_
 obtain rfl := Option.some.inj h
 exact b_ret1 S rfl rfl ⟨_, rfl, (RepV.mkInt hF_99), W.below⟩
theorem cb25 : callB Try.prog 25 = true := by kernel_rfl
def p26 (n : Nat) (x0 : Sl (Int)) : Option ((Sl (Int))) :=
 (appI ([] : List (Int)) x0.xs).bind fun l_8 =>
 some (⟨l_8, capA (some 0) l_8.length⟩ : Sl (Int))
set_option maxHeartbeats 4000000 in
set_option maxRecDepth 100000 in
/-- slices.Clone[[]byte,byte] -/
theorem c26 (K : Nat → Prop) (n : Nat) (w : World) (x0 : Sl (Int)) (v0 : Value) (R0 : RepV (.sl (.int .u8)) w K v0 x0) {r : (Sl (Int))} (h : p26 n x0 = some r) :
  Calls Try.prog 26 #[v0] w (fun e_ w_ => ∃ v0_ : Value, e_ = .returned v0_ ∧ Ow (.int .u8) 5 w_ w.heap.size (Kx K w.heap.size [v0_.ownBlock]) v0_ r.xs r.cap ∧ Below w.heap.size w w_) := by
 refine enter (args := [v0]) Try.func26 rfl 8 rfl rfl fun a S => ?_
 have W := Wd.start w
 replace R0 := R0.arg
 unfold p26 at h
 replace S : St 8 a [(0, v0)] := S
 refine wp_seq ?_
 refine wp_region_lit ?_
 refine wl_pure (l' := [(2, .slice .none 0 0), (0, v0)]) S tys tys_ok 1 (by kernel_rfl) ?_
 clear S; intro a S
 refine wpList_nil ?_
 refine then_n ?_
 replace S := S.sub (l' := [(0, v0)]) (by exact ⟨rfl, trivial⟩)
 refine wp_seq ?_
 refine wp_seq ?_
 refine wp_region_lit ?_
 refine wl_pure (l' := [(3, v0), (0, v0)]) S tys tys_ok 1 (by kernel_rfl) ?_
 clear S; intro a S
 refine w_go S rfl (op_eqnil S rfl ty28 rfl rfl rfl R0 ?_)
 clear S; intro a b_1 hb_2 S
 refine wpList_nil ?_
 refine then_n ?_
 replace S := S.sub (l' := [(4, .bool b_1), (0, v0)]) (by exact ⟨rfl, rfl, trivial⟩)
 refine wp_cond_split (S.eval (show ev _ _ = some (.bool b_1) from rfl)) ?_ ?_
 ·intro hc
  have hx_ := hb_2 hc
  refine wp_seq ?_
  refine wp_region_lit ?_
  refine wl_pure (l' := [(2, .slice .none 0 0), (4, .bool b_1), (0, v0)]) S tys tys_ok 1 (by kernel_rfl) ?_
  clear S; intro a S
  refine wpList_nil ?_
  refine then_n ?_
  replace S := S.sub (l' := [(2, .slice .none 0 0)]) (by exact ⟨rfl, trivial⟩)
  refine wp_ret ?_
  refine then_r ?_
  replace W := W.more
  have O_3 : Ow (.int .u8) 5 w w.heap.size (Kx K w.heap.size [.none]) (.slice .none 0 0) ([] : List (Int)) (some 0) := Ow.nil
  obtain rfl : (⟨([] : List (Int)), some 0⟩ : Sl (Int)) = _ := by simpa [hx_, appI, capA] using h
  exact b_ret1 S rfl rfl ⟨_, rfl, (O_3.lessO 0 rfl), W.below⟩
 ·intro hc
  refine wp_skip ?_
  refine then_n ?_
  replace S := S.sub (l' := [(0, v0)]) (by exact ⟨rfl, trivial⟩)
  refine wp_seq ?_
  refine wp_region_lit ?_
  refine w_go S rfl (op_row0 (K := K) (e := (.int .u8)) (E := 5) S W rfl ty28 un28 rfl rfl ?_)
  clear S; intro a w_5 b_4 hb_6 O_7 S
  replace R0 := R0.box hb_6
  replace W := W.box hb_6
  replace O_7 : Ow (.int .u8) 5 w_5 w.heap.size (Kx K w.heap.size [some b_4]) (.slice (some ⟨b_4, 0, .none⟩) 0 0) ([] : List (Int)) (some 0) := O_7
  refine wl_pure (l' := [(6, v0), (5, (.slice (some ⟨b_4, 0, .none⟩) 0 0)), (0, v0)]) S tys tys_ok 1 (by kernel_rfl) ?_
  clear S; intro a S
  obtain ⟨l_8, el_8, h⟩ := bindS h
  refine w_go S rfl (op_append S W (E := 5) 0 rfl ty28 un28 by28 rfl rfl rfl rfl O_7 rfl R0 el_8 ?_)
  clear S; intro a w_10 v_9 A_11 O_12 S
  replace R0 : RepV (.sl (.int .u8)) w_10 (Kx K w.heap.size [v_9.ownBlock]) v0 x0 := R0.apd A_11 (i := 0) rfl
  replace W : Wd w w_10 [v_9.ownBlock] := W.apd A_11 (i := 0) rfl
  replace O_12 : Ow (.int .u8) 5 w_10 w.heap.size (Kx K w.heap.size [v_9.ownBlock]) v_9 l_8 (capA (some 0) l_8.length) := O_12
  refine wl_pureK (l' := [(2, v_9)]) S tys tys_ok 1 [2] (by kernel_rfl) ?_
  clear S; intro a S
  refine wpList_nil ?_
  refine then_n ?_
  refine wp_ret ?_
  obtain rfl := Option.some.inj h
  exact b_ret1 S rfl rfl ⟨_, rfl, (O_12.lessO 0 rfl), W.below⟩
theorem cb26 : callB Try.prog 26 = true := by kernel_rfl
def p27 (n : Nat) (x0 : Sl (Sl (Int))) : Option ((Sl (Sl (Int)))) :=
 (sl3I x0 0 (lenI x0) (lenI x0)).bind fun s_5 =>
 some s_5
set_option maxHeartbeats 4000000 in
set_option maxRecDepth 100000 in
/-- slices.Clip[[][]byte,[]byte] -/
theorem c27 (K : Nat → Prop) (n : Nat) (w : World) (x0 : Sl (Sl (Int))) (v0 : Value) (R0 : RepV (.sl (.sl (.int .u8))) w K v0 x0) {r : (Sl (Sl (Int)))} (h : p27 n x0 = some r) :
  Calls Try.prog 27 #[v0] w (Ret1 (.sl (.sl (.int .u8))) w (Kx K w.heap.size []) r) := by
 refine enter (args := [v0]) Try.func27 rfl 9 rfl rfl fun a S => ?_
 have W := Wd.start w
 replace R0 := R0.arg
 unfold p27 at h
 replace S : St 9 a [(0, v0)] := S
 refine wp_seq ?_
 refine wp_region_lit ?_
 refine wl_pure (l' := [(2, .slice .none 0 0), (0, v0)]) S tys tys_ok 1 (by kernel_rfl) ?_
 clear S; intro a S
 refine wpList_nil ?_
 refine then_n ?_
 replace S := S.sub (l' := [(0, v0)]) (by exact ⟨rfl, trivial⟩)
 refine wp_seq ?_
 refine wp_region_lit ?_
 refine wl_pure (l' := [(4, v0), (3, v0), (0, v0)]) S tys tys_ok 2 (by kernel_rfl) ?_
 clear S; intro a S
 refine w_go S rfl (op_len (K := _) S rfl ty23 rfl rfl rfl R0 ?_)
 clear S; intro a G_1 S
 refine wl_pure (l' := [(6, v0), (5, .int .i64 (lenI x0)), (4, v0), (3, v0), (0, v0)]) S tys tys_ok 1 (by kernel_rfl) ?_
 clear S; intro a S
 refine w_go S rfl (op_len (K := _) S rfl ty23 rfl rfl rfl R0 ?_)
 clear S; intro a G_2 S
 obtain ⟨s_5, es_5, h⟩ := bindS h
 refine w_go S rfl (op_slice3 S rfl ty23 rfl rfl rfl R0 (.inl ⟨rfl, rfl⟩) rfl rfl es_5 ?_)
 clear S; intro a v_3 R_4 S
 refine wl_pureK (l' := [(2, v_3)]) S tys tys_ok 1 [2] (by kernel_rfl) ?_
 clear S; intro a S
 refine wpList_nil ?_
 refine then_n ?_
 refine wp_ret ?_
 obtain rfl := Option.some.inj h
 exact b_ret1 S rfl rfl ⟨_, rfl, R_4.out, W.below⟩
theorem cb27 : callB Try.prog 27 = true := by kernel_rfl

end Go.Proofs.Ytlgalcekkffhnaa
