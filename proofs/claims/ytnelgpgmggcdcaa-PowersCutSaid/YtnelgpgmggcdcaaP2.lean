/- Functions of the program, as plain data. -/
import Derived.Test.YtnelgpgmggcdcaaP1
set_option linter.unusedVariables false
set_option linter.unusedSimpArgs false
namespace Go.Proofs.Ytnelgpgmggcdcaa
open Go.RowKit

def p39_36_l1 (n : Nat) (x0 : Sl (Int × Int × Bool × Bool × Bool × Bool × Int)) (y1_0 : Int × Int × Bool × Bool × Bool × Bool × Int) : Nat → (Int) → Option ((Unit) ⊕ ((Int)))
  | 0, _ => .none
  | m + 1, c_2 => if (decide (c_2 < (lenI x0))) then ((idx x0.xs c_2).bind fun y_11 => (p36 n y_11 y1_0).bind fun t_17 => if t_17 then (some (.inr c_2)) else (ckI .i64 (c_2 + 1)).bind fun x_22 => p39_36_l1 n x0 y1_0 m x_22) else some (.inl ())
def p39_36 (n : Nat) (x0 : Sl (Int × Int × Bool × Bool × Bool × Bool × Int)) (y1_0 : Int × Int × Bool × Bool × Bool × Bool × Int) : Option ((Int)) :=
  (p39_36_l1 n x0 y1_0 n 0).bind fun (y_6 : (Unit) ⊕ ((Int))) =>
  lrK y_6 some fun (s_7 : Unit) =>
  some (-1)
set_option maxHeartbeats 4000000 in
set_option maxRecDepth 100000 in
/-- slices.IndexFunc[[]plugboard/powers.Item,plugboard/powers.Item] -/
theorem c39_36 (K : Nat → Prop) (n : Nat) (w : World) (x0 : Sl (Int × Int × Bool × Bool × Bool × Bool × Int)) (v0 : Value) (R0 : RepV (.sl gt1) w K v0 x0) (q1_0 : Addr) (y1_0 : Int × Int × Bool × Bool × Bool × Bool × Int) (Q1_0 : Br gt1 w K q1_0 y1_0) {r : (Int)} (h : p39_36 n x0 y1_0 = some r) :
    Calls Try.prog 39 #[v0, .func (.func 36) #[] #[.pointer (some q1_0)]] w (Ret1 (.int .i64) w (Kx K w.heap.size []) r) := by
  refine enter (args := [v0, .func (.func 36) #[] #[.pointer (some q1_0)]]) Try.func39 rfl 19 rfl rfl fun a S => ?_
  have W := Wd.start w
  replace R0 := R0.arg
  unfold p39_36 at h
  replace S : St 19 a [(0, v0), (1, .func (.func 36) #[] #[.pointer (some q1_0)])] := S
  refine wp_seq ?_
  refine wp_region_lit ?_
  refine wl_pure (l' := [(4, .int .i64 0), (0, v0), (1, .func (.func 36) #[] #[.pointer (some q1_0)])]) S tys tys_ok 1 (by kernel_rfl) ?_
  clear S; intro a S
  refine wpList_nil ?_
  refine then_n ?_
  replace S := S.sub (l' := [(0, v0), (1, .func (.func 36) #[] #[.pointer (some q1_0)])]) (by exact ⟨rfl, rfl, trivial⟩)
  refine wp_seq ?_
  refine wp_seq ?_
  refine wp_region_lit ?_
  refine wl_pure (l' := [(6, v0), (0, v0), (1, .func (.func 36) #[] #[.pointer (some q1_0)])]) S tys tys_ok 1 (by kernel_rfl) ?_
  clear S; intro a S
  refine w_go S rfl (op_len (K := _) S rfl ty24 rfl rfl rfl R0 ?_)
  clear S; intro a G_1 S
  refine wl_pure (l' := [(8, .int .i64 0), (7, .int .i64 (lenI x0)), (6, v0), (0, v0), (1, .func (.func 36) #[] #[.pointer (some q1_0)])]) S tys tys_ok 1 (by kernel_rfl) ?_
  clear S; intro a S
  refine wpList_nil ?_
  refine then_n ?_
  replace S := S.sub (l' := [(8, .int .i64 0), (7, .int .i64 (lenI x0)), (0, v0), (1, .func (.func 36) #[] #[.pointer (some q1_0)])]) (by exact ⟨rfl, rfl, rfl, rfl, trivial⟩)
  obtain ⟨y_6, ey_6, h⟩ := bindS h
  refine wp_cut_ (fun a_ w_ => ∃ s_7 : Unit, y_6 = .inl s_7 ∧ (St 19 a_ [] ∧ Wd w w_ [])) ?_ ?_
  · refine wp_block ?_
    refine wp_loop_n (fun m_ a_ w_ => ∃ (c_2 : Int) , St 19 a_ [(8, .int .i64 c_2), (7, .int .i64 (lenI x0)), (0, v0), (1, .func (.func 36) #[] #[.pointer (some q1_0)])] ∧ Wd w w_ [] ∧ InR .i64 c_2 ∧ RepV (.sl gt1) w_ (Kx K w.heap.size []) v0 x0 ∧ p39_36_l1 n x0 y1_0 m_ c_2 = some y_6) n ?_ ?_
    · skip
      exact ⟨0, ⟨S.sub (by exact ⟨rfl, rfl, rfl, rfl, trivial⟩), W, (by decide), R0, ey_6⟩⟩
    · clear S W; rintro m_8 a w_10 ⟨c_2, S, W, G_3, R0, hl_9⟩
      cases m_8 with
      | zero => exact absurd hl_9 (by simp [p39_36_l1])
      | succ m_8 =>
        refine ⟨m_8, rfl, ?_⟩
        rw [p39_36_l1] at hl_9
        refine wp_seq ?_
        refine wp_region_lit ?_
        refine wl_pure (l' := [(9, .bool (decide (c_2 < (lenI x0)))), (8, .int .i64 c_2), (7, .int .i64 (lenI x0)), (0, v0), (1, .func (.func 36) #[] #[.pointer (some q1_0)])]) S tys tys_ok 1 (by kernel_rfl) ?_
        clear S; intro a S
        refine wpList_nil ?_
        refine then_n ?_
        refine wp_seq ?_
        refine wp_cond_split (S.eval (show ev _ _ = some (.bool (decide (c_2 < (lenI x0)))) from rfl)) ?_ ?_
        · intro hc
          rw [if_pos hc] at hl_9
          refine wp_skip ?_
          refine then_n ?_
          replace S := S.sub (l' := [(8, .int .i64 c_2), (7, .int .i64 (lenI x0)), (0, v0), (1, .func (.func 36) #[] #[.pointer (some q1_0)])]) (by exact ⟨rfl, rfl, rfl, rfl, trivial⟩)
          refine wp_seq ?_
          refine wp_block ?_
          refine wp_seq ?_
          refine wp_region_lit ?_
          refine wl_pure (l' := [(5, .int .i64 c_2), (10, .int .i64 c_2), (8, .int .i64 c_2), (7, .int .i64 (lenI x0)), (0, v0), (1, .func (.func 36) #[] #[.pointer (some q1_0)])]) S tys tys_ok 2 (by kernel_rfl) ?_
          clear S; intro a S
          refine wpList_nil ?_
          refine then_n ?_
          replace S := S.sub (l' := [(5, .int .i64 c_2), (8, .int .i64 c_2), (7, .int .i64 (lenI x0)), (0, v0), (1, .func (.func 36) #[] #[.pointer (some q1_0)])]) (by exact ⟨rfl, rfl, rfl, rfl, rfl, trivial⟩)
          refine wp_seq ?_
          refine wp_region_lit ?_
          refine wl_pure (l' := [(13, .int .i64 c_2), (12, v0), (11, .func (.func 36) #[] #[.pointer (some q1_0)]), (5, .int .i64 c_2), (8, .int .i64 c_2), (7, .int .i64 (lenI x0)), (0, v0), (1, .func (.func 36) #[] #[.pointer (some q1_0)])]) S tys tys_ok 3 (by kernel_rfl) ?_
          clear S; intro a S
          obtain ⟨y_11, ey_11, hl_9⟩ := bindS hl_9
          refine w_go S rfl (op_indexAddr S rfl ty24 rfl rfl rfl R0 rfl ey_11 ?_)
          clear S; intro a p_12 R_13 H_14 S
          refine w_go S rfl (op_load (t := gt1) (x := y_11) S rfl ty32 rfl rfl rfl R_13 ?_)
          clear S; intro a v_15 R_16 S
          obtain ⟨t_17, et_17, hl_9⟩ := bindS hl_9
          refine w_go S rfl (op_calld (vs := [v_15]) S rfl rfl cb36 rfl rfl rfl (c36 (Kx K w.heap.size []) n w_10 y_11 _ R_16 _ y1_0 (Br.again Q1_0 W) et_17) ?_)
          rintro _ w_21 ⟨v_18, rfl, R_19, hb_20⟩; refine ⟨_, rfl, ?_⟩
          replace R_19 := RepV.back R_19 W
          clear S; intro a S
          replace R0 := R0.step hb_20
          replace R_16 := R_16.step hb_20
          replace W := W.step hb_20
          obtain rfl := RepV.bool R_19
          refine wpList_nil ?_
          refine then_n ?_
          replace S := S.sub (l' := [(16, .bool t_17), (5, .int .i64 c_2), (8, .int .i64 c_2), (7, .int .i64 (lenI x0)), (0, v0), (1, .func (.func 36) #[] #[.pointer (some q1_0)])]) (by exact ⟨rfl, rfl, rfl, rfl, rfl, rfl, trivial⟩)
          refine wp_cond_split (S.eval (show ev _ _ = some (.bool t_17) from rfl)) ?_ ?_
          · intro hc
            rw [if_pos hc] at hl_9
            refine wp_seq ?_
            refine wp_region_lit ?_
            refine wl_pureK (l' := [(4, .int .i64 c_2)]) S tys tys_ok 2 [4] (by kernel_rfl) ?_
            clear S; intro a S
            refine wpList_nil ?_
            refine then_n ?_
            refine wp_ret ?_
            refine blk_r ?_
            refine then_r ?_
            refine then_r ?_
            refine blk_r ?_
            refine then_r ?_
            refine then_r ?_
            obtain rfl := Option.some.inj hl_9
            obtain rfl := lr_inr h
            exact b_ret1 S rfl rfl ⟨_, rfl, (RepV.mkInt G_3), W.below⟩
          · intro hc
            rw [if_neg (Bool.eq_false_iff.1 hc)] at hl_9
            refine wp_skip ?_
            refine blk_n ?_
            refine then_n ?_
            replace S := S.sub (l' := [(8, .int .i64 c_2), (7, .int .i64 (lenI x0)), (0, v0), (1, .func (.func 36) #[] #[.pointer (some q1_0)])]) (by exact ⟨rfl, rfl, rfl, rfl, trivial⟩)
            refine wp_region_lit ?_
            obtain ⟨x_22, ex_22, hl_9⟩ := bindS hl_9
            refine w_go S rfl (op_arith S .i64 (c_2 + 1) rfl (.inl rfl) rfl rfl rfl rfl ex_22 ?_)
            clear S; intro a S
            refine wl_pure (l' := [(8, .int .i64 x_22), (18, .int .i64 x_22), (8, .int .i64 c_2), (7, .int .i64 (lenI x0)), (0, v0), (1, .func (.func 36) #[] #[.pointer (some q1_0)])]) S tys tys_ok 1 (by kernel_rfl) ?_
            clear S; intro a S
            refine wpList_nil ?_
            refine then_n ?_
            exact ⟨x_22, ⟨S.sub (by exact ⟨rfl, rfl, rfl, rfl, trivial⟩), W, (ckI_some ex_22).2.1, R0, hl_9⟩⟩
        · intro hc
          rw [if_neg (Bool.eq_false_iff.1 hc)] at hl_9
          refine wp_exit ?_
          refine then_x ?_
          refine then_x ?_
          refine blk_hit ?_
          refine then_n ?_
          obtain rfl := Option.some.inj hl_9
          exact ⟨_, rfl, ⟨S.sub trivial, W⟩⟩
  clear S W; rintro a w_23 ⟨s_7, rfl, S, W⟩
  replace h := lr_inl h; try dsimp only at h
  refine then_n ?_
  refine wp_seq ?_
  refine wp_region_lit ?_
  refine wl_pure (l' := [(4, .int .i64 (-1))]) S tys tys_ok 1 (by kernel_rfl) ?_
  clear S; intro a S
  refine wpList_nil ?_
  refine then_n ?_
  refine wp_ret ?_
  obtain rfl := Option.some.inj h
  exact b_ret1 S rfl rfl ⟨_, rfl, (RepV.mkInt (by decide)), W.below⟩
def p35_36 (n : Nat) (x0 : Sl (Int × Int × Bool × Bool × Bool × Bool × Int)) (y1_0 : Int × Int × Bool × Bool × Bool × Bool × Int) : Option ((Bool)) :=
  (p39_36 n x0 y1_0).bind fun t_1 =>
  some (decide (t_1 ≥ 0))
set_option maxHeartbeats 4000000 in
set_option maxRecDepth 100000 in
/-- slices.ContainsFunc[[]plugboard/powers.Item,plugboard/powers.Item] -/
theorem c35_36 (K : Nat → Prop) (n : Nat) (w : World) (x0 : Sl (Int × Int × Bool × Bool × Bool × Bool × Int)) (v0 : Value) (R0 : RepV (.sl gt1) w K v0 x0) (q1_0 : Addr) (y1_0 : Int × Int × Bool × Bool × Bool × Bool × Int) (Q1_0 : Br gt1 w K q1_0 y1_0) {r : (Bool)} (h : p35_36 n x0 y1_0 = some r) :
    Calls Try.prog 35 #[v0, .func (.func 36) #[] #[.pointer (some q1_0)]] w (Ret1 .bool w (Kx K w.heap.size []) r) := by
  refine enter (args := [v0, .func (.func 36) #[] #[.pointer (some q1_0)]]) Try.func35 rfl 9 rfl rfl fun a S => ?_
  have W := Wd.start w
  replace R0 := R0.arg
  unfold p35_36 at h
  replace S : St 9 a [(0, v0), (1, .func (.func 36) #[] #[.pointer (some q1_0)])] := S
  refine wp_seq ?_
  refine wp_region_lit ?_
  refine wl_pure (l' := [(4, .bool false), (0, v0), (1, .func (.func 36) #[] #[.pointer (some q1_0)])]) S tys tys_ok 1 (by kernel_rfl) ?_
  clear S; intro a S
  refine wpList_nil ?_
  refine then_n ?_
  replace S := S.sub (l' := [(0, v0), (1, .func (.func 36) #[] #[.pointer (some q1_0)])]) (by exact ⟨rfl, rfl, trivial⟩)
  refine wp_seq ?_
  refine wp_region_lit ?_
  refine wl_pure (l' := [(6, .func (.func 36) #[] #[.pointer (some q1_0)]), (5, v0), (0, v0), (1, .func (.func 36) #[] #[.pointer (some q1_0)])]) S tys tys_ok 2 (by kernel_rfl) ?_
  clear S; intro a S
  obtain ⟨t_1, et_1, h⟩ := bindS h
  refine w_go S rfl (op_call (vs := [v0, .func (.func 36) #[] #[.pointer (some q1_0)]]) S rfl cb39 rfl rfl rfl (c39_36 (Kx K w.heap.size []) n w x0 _ R0 _ y1_0 (Br.again Q1_0 W) et_1) ?_)
  rintro _ w_5 ⟨v_2, rfl, R_3, hb_4⟩; refine ⟨_, rfl, ?_⟩
  replace R_3 := RepV.back R_3 W
  clear S; intro a S
  replace R0 := R0.step hb_4
  replace W := W.step hb_4
  obtain ⟨rfl, GR_3⟩ := RepV.int R_3
  refine wl_pureK (l' := [(4, .bool (decide (t_1 ≥ 0)))]) S tys tys_ok 2 [4] (by kernel_rfl) ?_
  clear S; intro a S
  refine wpList_nil ?_
  refine then_n ?_
  refine wp_ret ?_
  obtain rfl := Option.some.inj h
  exact b_ret1 S rfl rfl ⟨_, rfl, RepV.mkBool, W.below⟩
def p30_r1 (n : Nat)  (s_ : (Int)) (x_ : (Int)) : Option (Nat × ((Int))) :=
  (ckI .i64 (s_ + 1)).bind fun x_77 => some (0, x_77)
def p30 (n : Nat) (x0 : Sl (Int × Int × Bool × Bool × Bool × Bool × Int)) (x1 : Int) : Option ((Bool)) :=
  (idx x0.xs x1).bind fun y_1 =>
  (if (decide (y_1.1 < (-1))) = false then some (decide (y_1.1 ≥ x1)) else some true).bind fun q_15 =>
  (if q_15 = false then some (decide (y_1.2.1 < 1)) else some true).bind fun q_18 =>
  (if q_18 = false then some (decide (y_1.2.1 > 7)) else some true).bind fun q_21 =>
  (if q_21 = false then some (decide (y_1.2.2.2.2.2.2 < 0)) else some true).bind fun q_24 =>
  (if q_24 = false then some (decide (y_1.2.2.2.2.2.2 > 500)) else some true).bind fun q_27 =>
  (if q_27 = false then (if y_1.2.2.2.1 = true then some (!y_1.2.2.1) else some false).bind fun q_33 => some q_33 else some true).bind fun q_30 =>
  if q_30 then (some false) else (slI x0 0 x1).bind fun s_38 => (p35_36 n s_38 y_1).bind fun t_39 => if t_39 then (some false) else (if y_1.2.2.1 then (some 1) else some 0).bind fun (j_52 : (Int)) => (p32 n x0 x1).bind fun t_56 => (p37 n t_56.1 t_56.2 (Nat × ((Int))) (rnd (p30_r1 n)) (0, j_52)).bind fun (y_70 : Nat × ((Int))) => if (y_1.1 == (-1)) then (some true) else (idx x0.xs y_1.1).bind fun y_88 => (if y_88.2.2.1 = true then (if y_88.2.2.2.1 = false then some (decide (y_1.2.1 ≤ 4)) else some true).bind fun q_105 => some q_105 else some false).bind fun q_102 => (if q_102 = true then (if y_1.2.2.2.2.2.1 = false then some (!y_88.2.2.2.2.2.1) else some true).bind fun q_111 => some q_111 else some false).bind fun q_108 => (if q_108 = true then some (decide (y_70.2 ≤ 5)) else some false).bind fun q_114 => some q_114
set_option maxHeartbeats 4000000 in
set_option maxRecDepth 100000 in
/-- plugboard/powers.valid -/
theorem c30 (K : Nat → Prop) (n : Nat) (w : World) (x0 : Sl (Int × Int × Bool × Bool × Bool × Bool × Int)) (v0 : Value) (R0 : RepV (.sl gt1) w K v0 x0) (x1 : Int) (G1 : InR .i64 x1) {r : (Bool)} (h : p30 n x0 x1 = some r) :
    Calls Try.prog 30 #[v0, .int .i64 x1] w (Ret1 .bool w (Kx K w.heap.size []) r) := by
  refine R.enter (args := [v0, .int .i64 x1]) Try.func30 rfl 95 rfl rfl (fun _ h_ => by obtain ⟨_, q_, _⟩ := h_; cases q_) fun a S => ?_
  have W := Wd.start w
  replace R0 := R0.arg
  unfold p30 at h
  replace S : St 95 a [(0, v0), (1, .int .i64 x1)] := S
  refine R.wp_seq ?_
  refine R.wp_region_lit ?_
  refine R.wl_pure (l' := [(4, .bool false), (0, v0), (1, .int .i64 x1)]) S tys tys_ok 1 (by kernel_rfl) ?_
  clear S; intro a S
  refine R.wpList_nil ?_
  refine then_n ?_
  replace S := S.sub (l' := [(0, v0), (1, .int .i64 x1)]) (by exact ⟨rfl, rfl, trivial⟩)
  refine R.wp_seq ?_
  refine R.wp_region_lit ?_
  refine R.wl_pure (l' := [(9, .int .i64 x1), (8, v0), (0, v0), (1, .int .i64 x1)]) S tys tys_ok 2 (by kernel_rfl) ?_
  clear S; intro a S
  obtain ⟨y_1, ey_1, h⟩ := bindS h
  refine R.w_go S rfl (op_indexAddr S rfl ty24 rfl rfl rfl R0 rfl ey_1 ?_)
  clear S; intro a p_2 R_3 H_4 S
  refine R.w_go S rfl (op_load (t := gt1) (x := y_1) S rfl ty32 rfl rfl rfl R_3 ?_)
  clear S; intro a v_5 R_6 S
  refine R.w_go S rfl (op_alloc (K := K) (n := w.heap.size) (L := []) (t := gt1) (y := (0, 0, false, false, false, false, 0)) S rfl rfl rfl _ z32 (fun w K => ⟨[.int .i64 0], [.int .u8 0, .bool false, .bool false, .bool false, .bool false, .int .i64 0], rfl, ⟨rfl, by decide⟩, ⟨[.int .u8 0], [.bool false, .bool false, .bool false, .bool false, .int .i64 0], rfl, ⟨rfl, by decide⟩, ⟨[.bool false], [.bool false, .bool false, .bool false, .int .i64 0], rfl, rfl, ⟨[.bool false], [.bool false, .bool false, .int .i64 0], rfl, rfl, ⟨[.bool false], [.bool false, .int .i64 0], rfl, rfl, ⟨[.bool false], [.int .i64 0], rfl, rfl, ⟨rfl, by decide⟩⟩⟩⟩⟩⟩⟩) ?_)
  clear S; intro a w_9 b_7 hb_10 B_8 S
  replace R0 := R0.box hb_10
  replace R_6 := R_6.box hb_10
  replace W := W.box hb_10
  refine R.w_go S rfl (op_store (t' := gt1) S rfl rfl ty32 rfl rfl rfl B_8 (by simp) Ln.whole R_6 ?_)
  intro w_11 hw_12 B_
  replace R0 := R0.wrote hw_12 (by simp)
  replace R_6 := R_6.wrote hw_12 (by simp)
  replace W := W.wrote hw_12 (by simp)
  replace B_8 : Bx gt1 32 w_11 (Kx K w.heap.size [some b_7]) b_7 y_1 := B_; clear B_
  refine R.wpList_nil ?_
  refine then_n ?_
  replace S := S.sub (l' := [(5, pB b_7), (0, v0), (1, .int .i64 x1)]) (by exact ⟨rfl, rfl, rfl, trivial⟩)
  refine R.wp_seq ?_
  refine R.wp_seq ?_
  refine R.wp_region_lit ?_
  refine R.wl_pure (l' := [(12, .pointer (some ((⟨b_7, 0, .none⟩ : Addr).add (coff gf1 0)))), (5, pB b_7), (0, v0), (1, .int .i64 x1)]) S tys tys_ok 1 (by kernel_rfl) ?_
  clear S; intro a S
  refine R.w_go S rfl (op_load (t := (.int .i64)) (x := y_1.1) S rfl ty3 rfl rfl rfl (RepAt.add 0 (RepAt.st (t := gf1) B_8.at_)) ?_)
  clear S; intro a v_13 R_14 S
  obtain ⟨rfl, GR_14⟩ := RepV.int R_14
  refine R.wl_pureK (l' := [(15, .bool (decide (y_1.1 < (-1)))), (5, pB b_7), (0, v0), (1, .int .i64 x1)]) S tys tys_ok 2 [15, 5, 0, 1] (by kernel_rfl) ?_
  clear S; intro a S
  obtain ⟨q_15, eq_15, h⟩ := bindS h
  refine R.seg 5 (fun a_ w_ => w_11 = w_ ∧ St 95 a_ [(20, .bool q_15), (5, pB b_7), (0, v0), (1, .int .i64 x1)]) ?_ ?_
  · by_cases hc : (decide (y_1.1 < (-1))) = false
    · rw [if_pos hc] at eq_15; rw [hc] at S
      refine R.wl_pure (l' := [(16, .pointer (some ((⟨b_7, 0, .none⟩ : Addr).add (coff gf1 0)))), (15, .bool false), (5, pB b_7), (0, v0), (1, .int .i64 x1)]) S tys tys_ok 1 (by kernel_rfl) ?_
      clear S; intro a S
      refine R.w_go S rfl (op_load (t := (.int .i64)) (x := y_1.1) S rfl ty3 rfl rfl rfl (RepAt.add 0 (RepAt.st (t := gf1) B_8.at_)) ?_)
      clear S; intro a v_16 R_17 S
      obtain ⟨rfl, GR_17⟩ := RepV.int R_17
      refine R.wl_pureK (l' := [(20, .bool (decide (y_1.1 ≥ x1))), (5, pB b_7), (0, v0), (1, .int .i64 x1)]) S tys tys_ok 3 [20, 5, 0, 1] (by kernel_rfl) ?_
      clear S; intro a S
      obtain rfl := Option.some.inj eq_15
      refine R.wpList_nil ?_
      exact ⟨rfl, S.sub (by exact ⟨rfl, rfl, rfl, rfl, trivial⟩)⟩
    · rw [if_neg hc] at eq_15; rw [show (decide (y_1.1 < (-1))) = true from (by simpa using hc)] at S
      refine R.wl_pureK (l' := [(20, .bool true), (5, pB b_7), (0, v0), (1, .int .i64 x1)]) S tys tys_ok 5 [20, 5, 0, 1] (by kernel_rfl) ?_
      clear S; intro a S
      obtain rfl := Option.some.inj eq_15
      refine R.wpList_nil ?_
      exact ⟨rfl, S.sub (by exact ⟨rfl, rfl, rfl, rfl, trivial⟩)⟩
  clear S eq_15; rintro a _ ⟨rfl, S⟩
  refine R.wl_pure (l' := [(21, .bool q_15), (20, .bool q_15), (5, pB b_7), (0, v0), (1, .int .i64 x1)]) S tys tys_ok 1 (by kernel_rfl) ?_
  clear S; intro a S
  obtain ⟨q_18, eq_18, h⟩ := bindS h
  refine R.seg 4 (fun a_ w_ => w_11 = w_ ∧ St 95 a_ [(25, .bool q_18), (5, pB b_7), (0, v0), (1, .int .i64 x1)]) ?_ ?_
  · by_cases hc : q_15 = false
    · rw [if_pos hc] at eq_18; rw [hc] at S
      refine R.wl_pure (l' := [(22, .pointer (some ((⟨b_7, 0, .none⟩ : Addr).add (coff gf1 1)))), (21, .bool false), (20, .bool false), (5, pB b_7), (0, v0), (1, .int .i64 x1)]) S tys tys_ok 1 (by kernel_rfl) ?_
      clear S; intro a S
      refine R.w_go S rfl (op_load (t := (.int .u8)) (x := y_1.2.1) S rfl ty5 rfl rfl rfl (RepAt.add 1 (RepAt.st (t := gf1) B_8.at_)) ?_)
      clear S; intro a v_19 R_20 S
      obtain ⟨rfl, GR_20⟩ := RepV.int R_20
      refine R.wl_pureK (l' := [(25, .bool (decide (y_1.2.1 < 1))), (5, pB b_7), (0, v0), (1, .int .i64 x1)]) S tys tys_ok 2 [25, 5, 0, 1] (by kernel_rfl) ?_
      clear S; intro a S
      obtain rfl := Option.some.inj eq_18
      refine R.wpList_nil ?_
      exact ⟨rfl, S.sub (by exact ⟨rfl, rfl, rfl, rfl, trivial⟩)⟩
    · rw [if_neg hc] at eq_18; rw [show q_15 = true from (by simpa using hc)] at S
      refine R.wl_pureK (l' := [(25, .bool true), (5, pB b_7), (0, v0), (1, .int .i64 x1)]) S tys tys_ok 4 [25, 5, 0, 1] (by kernel_rfl) ?_
      clear S; intro a S
      obtain rfl := Option.some.inj eq_18
      refine R.wpList_nil ?_
      exact ⟨rfl, S.sub (by exact ⟨rfl, rfl, rfl, rfl, trivial⟩)⟩
  clear S eq_18; rintro a _ ⟨rfl, S⟩
  refine R.wl_pure (l' := [(26, .bool q_18), (25, .bool q_18), (5, pB b_7), (0, v0), (1, .int .i64 x1)]) S tys tys_ok 1 (by kernel_rfl) ?_
  clear S; intro a S
  obtain ⟨q_21, eq_21, h⟩ := bindS h
  refine R.seg 4 (fun a_ w_ => w_11 = w_ ∧ St 95 a_ [(30, .bool q_21), (5, pB b_7), (0, v0), (1, .int .i64 x1)]) ?_ ?_
  · by_cases hc : q_18 = false
    · rw [if_pos hc] at eq_21; rw [hc] at S
      refine R.wl_pure (l' := [(27, .pointer (some ((⟨b_7, 0, .none⟩ : Addr).add (coff gf1 1)))), (26, .bool false), (25, .bool false), (5, pB b_7), (0, v0), (1, .int .i64 x1)]) S tys tys_ok 1 (by kernel_rfl) ?_
      clear S; intro a S
      refine R.w_go S rfl (op_load (t := (.int .u8)) (x := y_1.2.1) S rfl ty5 rfl rfl rfl (RepAt.add 1 (RepAt.st (t := gf1) B_8.at_)) ?_)
      clear S; intro a v_22 R_23 S
      obtain ⟨rfl, GR_23⟩ := RepV.int R_23
      refine R.wl_pureK (l' := [(30, .bool (decide (y_1.2.1 > 7))), (5, pB b_7), (0, v0), (1, .int .i64 x1)]) S tys tys_ok 2 [30, 5, 0, 1] (by kernel_rfl) ?_
      clear S; intro a S
      obtain rfl := Option.some.inj eq_21
      refine R.wpList_nil ?_
      exact ⟨rfl, S.sub (by exact ⟨rfl, rfl, rfl, rfl, trivial⟩)⟩
    · rw [if_neg hc] at eq_21; rw [show q_18 = true from (by simpa using hc)] at S
      refine R.wl_pureK (l' := [(30, .bool true), (5, pB b_7), (0, v0), (1, .int .i64 x1)]) S tys tys_ok 4 [30, 5, 0, 1] (by kernel_rfl) ?_
      clear S; intro a S
      obtain rfl := Option.some.inj eq_21
      refine R.wpList_nil ?_
      exact ⟨rfl, S.sub (by exact ⟨rfl, rfl, rfl, rfl, trivial⟩)⟩
  clear S eq_21; rintro a _ ⟨rfl, S⟩
  refine R.wl_pure (l' := [(31, .bool q_21), (30, .bool q_21), (5, pB b_7), (0, v0), (1, .int .i64 x1)]) S tys tys_ok 1 (by kernel_rfl) ?_
  clear S; intro a S
  obtain ⟨q_24, eq_24, h⟩ := bindS h
  refine R.seg 4 (fun a_ w_ => w_11 = w_ ∧ St 95 a_ [(35, .bool q_24), (5, pB b_7), (0, v0), (1, .int .i64 x1)]) ?_ ?_
  · by_cases hc : q_21 = false
    · rw [if_pos hc] at eq_24; rw [hc] at S
      refine R.wl_pure (l' := [(32, .pointer (some ((⟨b_7, 0, .none⟩ : Addr).add (coff gf1 6)))), (31, .bool false), (30, .bool false), (5, pB b_7), (0, v0), (1, .int .i64 x1)]) S tys tys_ok 1 (by kernel_rfl) ?_
      clear S; intro a S
      refine R.w_go S rfl (op_load (t := (.int .i64)) (x := y_1.2.2.2.2.2.2) S rfl ty3 rfl rfl rfl (RepAt.add 6 (RepAt.st (t := gf1) B_8.at_)) ?_)
      clear S; intro a v_25 R_26 S
      obtain ⟨rfl, GR_26⟩ := RepV.int R_26
      refine R.wl_pureK (l' := [(35, .bool (decide (y_1.2.2.2.2.2.2 < 0))), (5, pB b_7), (0, v0), (1, .int .i64 x1)]) S tys tys_ok 2 [35, 5, 0, 1] (by kernel_rfl) ?_
      clear S; intro a S
      obtain rfl := Option.some.inj eq_24
      refine R.wpList_nil ?_
      exact ⟨rfl, S.sub (by exact ⟨rfl, rfl, rfl, rfl, trivial⟩)⟩
    · rw [if_neg hc] at eq_24; rw [show q_21 = true from (by simpa using hc)] at S
      refine R.wl_pureK (l' := [(35, .bool true), (5, pB b_7), (0, v0), (1, .int .i64 x1)]) S tys tys_ok 4 [35, 5, 0, 1] (by kernel_rfl) ?_
      clear S; intro a S
      obtain rfl := Option.some.inj eq_24
      refine R.wpList_nil ?_
      exact ⟨rfl, S.sub (by exact ⟨rfl, rfl, rfl, rfl, trivial⟩)⟩
  clear S eq_24; rintro a _ ⟨rfl, S⟩
  refine R.wl_pure (l' := [(36, .bool q_24), (35, .bool q_24), (5, pB b_7), (0, v0), (1, .int .i64 x1)]) S tys tys_ok 1 (by kernel_rfl) ?_
  clear S; intro a S
  obtain ⟨q_27, eq_27, h⟩ := bindS h
  refine R.seg 4 (fun a_ w_ => w_11 = w_ ∧ St 95 a_ [(40, .bool q_27), (5, pB b_7), (0, v0), (1, .int .i64 x1)]) ?_ ?_
  · by_cases hc : q_24 = false
    · rw [if_pos hc] at eq_27; rw [hc] at S
      refine R.wl_pure (l' := [(37, .pointer (some ((⟨b_7, 0, .none⟩ : Addr).add (coff gf1 6)))), (36, .bool false), (35, .bool false), (5, pB b_7), (0, v0), (1, .int .i64 x1)]) S tys tys_ok 1 (by kernel_rfl) ?_
      clear S; intro a S
      refine R.w_go S rfl (op_load (t := (.int .i64)) (x := y_1.2.2.2.2.2.2) S rfl ty3 rfl rfl rfl (RepAt.add 6 (RepAt.st (t := gf1) B_8.at_)) ?_)
      clear S; intro a v_28 R_29 S
      obtain ⟨rfl, GR_29⟩ := RepV.int R_29
      refine R.wl_pureK (l' := [(40, .bool (decide (y_1.2.2.2.2.2.2 > 500))), (5, pB b_7), (0, v0), (1, .int .i64 x1)]) S tys tys_ok 2 [40, 5, 0, 1] (by kernel_rfl) ?_
      clear S; intro a S
      obtain rfl := Option.some.inj eq_27
      refine R.wpList_nil ?_
      exact ⟨rfl, S.sub (by exact ⟨rfl, rfl, rfl, rfl, trivial⟩)⟩
    · rw [if_neg hc] at eq_27; rw [show q_24 = true from (by simpa using hc)] at S
      refine R.wl_pureK (l' := [(40, .bool true), (5, pB b_7), (0, v0), (1, .int .i64 x1)]) S tys tys_ok 4 [40, 5, 0, 1] (by kernel_rfl) ?_
      clear S; intro a S
      obtain rfl := Option.some.inj eq_27
      refine R.wpList_nil ?_
      exact ⟨rfl, S.sub (by exact ⟨rfl, rfl, rfl, rfl, trivial⟩)⟩
  clear S eq_27; rintro a _ ⟨rfl, S⟩
  refine R.wl_pure (l' := [(41, .bool q_27), (40, .bool q_27), (5, pB b_7), (0, v0), (1, .int .i64 x1)]) S tys tys_ok 1 (by kernel_rfl) ?_
  clear S; intro a S
  obtain ⟨q_30, eq_30, h⟩ := bindS h
  refine R.seg 8 (fun a_ w_ => w_11 = w_ ∧ St 95 a_ [(49, .bool q_30), (5, pB b_7), (0, v0), (1, .int .i64 x1)]) ?_ ?_
  · by_cases hc : q_27 = false
    · rw [if_pos hc] at eq_30; rw [hc] at S
      refine R.wl_pure (l' := [(42, .pointer (some ((⟨b_7, 0, .none⟩ : Addr).add (coff gf1 3)))), (41, .bool false), (40, .bool false), (5, pB b_7), (0, v0), (1, .int .i64 x1)]) S tys tys_ok 1 (by kernel_rfl) ?_
      clear S; intro a S
      refine R.w_go S rfl (op_load (t := .bool) (x := y_1.2.2.2.1) S rfl ty4 rfl rfl rfl (RepAt.add 3 (RepAt.st (t := gf1) B_8.at_)) ?_)
      clear S; intro a v_31 R_32 S
      obtain rfl := RepV.bool R_32
      refine R.wl_pureK (l' := [(44, .bool y_1.2.2.2.1), (41, .bool false), (5, pB b_7), (0, v0), (1, .int .i64 x1)]) S tys tys_ok 1 [44, 41, 5, 0, 1] (by kernel_rfl) ?_
      clear S; intro a S
      obtain ⟨q_33, eq_33, eq_30⟩ := bindS eq_30
      refine R.seg 4 (fun a_ w_ => w_11 = w_ ∧ St 95 a_ [(48, .bool q_33), (41, .bool false), (5, pB b_7), (0, v0), (1, .int .i64 x1)]) ?_ ?_
      · by_cases hc : y_1.2.2.2.1 = true
        · rw [if_pos hc] at eq_33; rw [hc] at S
          refine R.wl_pure (l' := [(45, .pointer (some ((⟨b_7, 0, .none⟩ : Addr).add (coff gf1 2)))), (44, .bool true), (41, .bool false), (5, pB b_7), (0, v0), (1, .int .i64 x1)]) S tys tys_ok 1 (by kernel_rfl) ?_
          clear S; intro a S
          refine R.w_go S rfl (op_load (t := .bool) (x := y_1.2.2.1) S rfl ty4 rfl rfl rfl (RepAt.add 2 (RepAt.st (t := gf1) B_8.at_)) ?_)
          clear S; intro a v_34 R_35 S
          obtain rfl := RepV.bool R_35
          refine R.wl_pureK (l' := [(48, .bool (!y_1.2.2.1)), (41, .bool false), (5, pB b_7), (0, v0), (1, .int .i64 x1)]) S tys tys_ok 2 [48, 41, 5, 0, 1] (by kernel_rfl) ?_
          clear S; intro a S
          obtain rfl := Option.some.inj eq_33
          refine R.wpList_nil ?_
          exact ⟨rfl, S.sub (by exact ⟨rfl, rfl, rfl, rfl, rfl, trivial⟩)⟩
        · rw [if_neg hc] at eq_33; rw [show y_1.2.2.2.1 = false from Bool.eq_false_iff.2 hc] at S
          refine R.wl_pureK (l' := [(48, .bool false), (41, .bool false), (5, pB b_7), (0, v0), (1, .int .i64 x1)]) S tys tys_ok 4 [48, 41, 5, 0, 1] (by kernel_rfl) ?_
          clear S; intro a S
          obtain rfl := Option.some.inj eq_33
          refine R.wpList_nil ?_
          exact ⟨rfl, S.sub (by exact ⟨rfl, rfl, rfl, rfl, rfl, trivial⟩)⟩
      clear S eq_33; rintro a _ ⟨rfl, S⟩
      refine R.wl_pure (l' := [(49, .bool q_33), (48, .bool q_33), (41, .bool false), (5, pB b_7), (0, v0), (1, .int .i64 x1)]) S tys tys_ok 1 (by kernel_rfl) ?_
      clear S; intro a S
      obtain rfl := Option.some.inj eq_30
      refine R.wpList_nil ?_
      exact ⟨rfl, S.sub (by exact ⟨rfl, rfl, rfl, rfl, trivial⟩)⟩
    · rw [if_neg hc] at eq_30; rw [show q_27 = true from (by simpa using hc)] at S
      refine R.wl_pureK (l' := [(49, .bool true), (5, pB b_7), (0, v0), (1, .int .i64 x1)]) S tys tys_ok 8 [49, 5, 0, 1] (by kernel_rfl) ?_
      clear S; intro a S
      obtain rfl := Option.some.inj eq_30
      refine R.wpList_nil ?_
      exact ⟨rfl, S.sub (by exact ⟨rfl, rfl, rfl, rfl, trivial⟩)⟩
  clear S eq_30; rintro a _ ⟨rfl, S⟩
  refine R.wpList_nil ?_
  refine then_n ?_
  refine R.wp_cond_split (S.eval (show ev _ _ = some (.bool q_30) from rfl)) ?_ ?_
  · intro hc
    rw [if_pos hc] at h
    refine R.wp_seq ?_
    refine R.wp_region_lit ?_
    refine R.wl_pureK (l' := [(4, .bool false)]) S tys tys_ok 1 [4] (by kernel_rfl) ?_
    clear S; intro a S
    refine R.wpList_nil ?_
    refine then_n ?_
    refine R.wp_ret ?_
    refine then_r ?_
    refine R.leave0 S ?_ (by simp)
    clear S; intro a S
    obtain rfl := Option.some.inj h
    exact b_ret1 S rfl rfl ⟨_, rfl, RepV.mkBool, W.below⟩
  · intro hc
    rw [if_neg (Bool.eq_false_iff.1 hc)] at h
    refine R.wp_skip ?_
    refine then_n ?_
    replace S := S.sub (l' := [(5, pB b_7), (0, v0), (1, .int .i64 x1)]) (by exact ⟨rfl, rfl, rfl, trivial⟩)
    refine R.wp_seq ?_
    refine R.wp_seq ?_
    refine R.wp_region_lit ?_
    refine R.wl_pure (l' := [(51, .int .i64 x1), (50, v0), (5, pB b_7), (0, v0), (1, .int .i64 x1)]) S tys tys_ok 2 (by kernel_rfl) ?_
    clear S; intro a S
    obtain ⟨s_38, es_38, h⟩ := bindS h
    refine R.w_go S rfl (op_slice S rfl ty24 rfl rfl rfl R0 (.inl ⟨rfl, rfl⟩) (.inr ⟨_, _, rfl, rfl⟩) es_38 ?_)
    clear S; intro a v_36 R_37 S
    refine R.w_go S rfl (op_mkfn (vs := []) (us := [pB b_7]) S rfl rfl rfl rfl rfl ?_)
    clear S; intro a S
    obtain ⟨t_39, et_39, h⟩ := bindS h
    refine R.w_go S rfl (op_call (vs := [v_36, .func (.func 36) #[] #[pB b_7]]) S rfl cb35 rfl rfl rfl (c35_36 (Kx K w.heap.size [some b_7]) n w_11 s_38 _ R_37 _ y_1 (Bx.br B_8) et_39) ?_)
    rintro _ w_43 ⟨v_40, rfl, R_41, hb_42⟩; refine ⟨_, rfl, ?_⟩
    replace R_41 := RepV.back R_41 W
    clear S; intro a S
    replace R0 := R0.step hb_42
    replace R_37 := R_37.step hb_42
    replace B_8 := B_8.step hb_42
    replace W := W.step hb_42
    obtain rfl := RepV.bool R_41
    refine R.wpList_nil ?_
    refine then_n ?_
    replace S := S.sub (l' := [(54, .bool t_39), (5, pB b_7), (0, v0), (1, .int .i64 x1)]) (by exact ⟨rfl, rfl, rfl, rfl, trivial⟩)
    refine R.wp_cond_split (S.eval (show ev _ _ = some (.bool t_39) from rfl)) ?_ ?_
    · intro hc
      rw [if_pos hc] at h
      refine R.wp_seq ?_
      refine R.wp_region_lit ?_
      refine R.wl_pureK (l' := [(4, .bool false)]) S tys tys_ok 1 [4] (by kernel_rfl) ?_
      clear S; intro a S
      refine R.wpList_nil ?_
      refine then_n ?_
      refine R.wp_ret ?_
      refine then_r ?_
      refine R.leave0 S ?_ (by simp)
      clear S; intro a S
      obtain rfl := Option.some.inj h
      exact b_ret1 S rfl rfl ⟨_, rfl, RepV.mkBool, W.below⟩
    · intro hc
      rw [if_neg (Bool.eq_false_iff.1 hc)] at h
      refine R.wp_skip ?_
      refine then_n ?_
      replace S := S.sub (l' := [(5, pB b_7), (0, v0), (1, .int .i64 x1)]) (by exact ⟨rfl, rfl, rfl, trivial⟩)
      refine R.wp_seq ?_
      refine R.wp_region_lit ?_
      refine R.w_go S rfl (op_alloc (K := K) (n := w.heap.size) (L := [some b_7]) (t := (.int .i64)) (y := 0) S rfl rfl rfl _ z3 (fun w K => ⟨rfl, by decide⟩) ?_)
      clear S; intro a w_46 b_44 hb_47 B_45 S
      replace R0 := R0.box hb_47
      replace B_8 := B_8.box hb_47
      replace W := W.box hb_47
      refine R.w_go S rfl (op_store (t' := (.int .i64)) S rfl rfl ty3 rfl rfl rfl B_45 (by simp) Ln.whole ((RepV.mkInt (by decide)) : RepV (.int .i64) w_46 (Kx K w.heap.size [some b_44, some b_7]) _ 0) ?_)
      intro w_48 hw_49 B_
      replace R0 := R0.wrote hw_49 (by simp)
      replace B_8 := B_8.wrote hw_49 (by simp) (W.bne (p := 1) (q := 0) (by decide) rfl rfl)
      replace W := W.wrote hw_49 (by simp)
      replace B_45 : Bx (.int .i64) 3 w_48 (Kx K w.heap.size [some b_44, some b_7]) b_44 0 := B_; clear B_
      refine R.wpList_nil ?_
      refine then_n ?_
      refine R.wp_seq ?_
      refine R.wp_seq ?_
      refine R.wp_region_lit ?_
      refine R.wl_pure (l' := [(55, .pointer (some ((⟨b_7, 0, .none⟩ : Addr).add (coff gf1 2)))), (6, pB b_44), (5, pB b_7), (0, v0), (1, .int .i64 x1)]) S tys tys_ok 1 (by kernel_rfl) ?_
      clear S; intro a S
      refine R.w_go S rfl (op_load (t := .bool) (x := y_1.2.2.1) S rfl ty4 rfl rfl rfl (RepAt.add 2 (RepAt.st (t := gf1) B_8.at_)) ?_)
      clear S; intro a v_50 R_51 S
      obtain rfl := RepV.bool R_51
      refine R.wpList_nil ?_
      refine then_n ?_
      replace S := S.sub (l' := [(56, .bool y_1.2.2.1), (6, pB b_44), (5, pB b_7), (0, v0), (1, .int .i64 x1)]) (by exact ⟨rfl, rfl, rfl, rfl, rfl, trivial⟩)
      obtain ⟨j_52, ej_52, h⟩ := bindS h
      refine R.wp_cut_ (fun a_ w_ => St 95 a_ [(6, pB b_44), (5, pB b_7), (0, v0), (1, .int .i64 x1)] ∧ Wd w w_ [some b_44, some b_7] ∧ RepV (.sl gt1) w_ (Kx K w.heap.size [some b_44, some b_7]) v0 x0 ∧ Bx gt1 32 w_ (Kx K w.heap.size [some b_44, some b_7]) b_7 y_1 ∧ Bx (.int .i64) 3 w_ (Kx K w.heap.size [some b_44, some b_7]) b_44 j_52) ?_ ?_
      · refine R.wp_cond_split (S.eval (show ev _ _ = some (.bool y_1.2.2.1) from rfl)) ?_ ?_
        · intro hc
          rw [if_pos hc] at ej_52
          refine R.wp_region_lit ?_
          refine R.w_go S rfl (op_store (t' := (.int .i64)) S rfl rfl ty3 rfl rfl rfl B_45 (by simp) Ln.whole ((RepV.mkInt (by decide)) : RepV (.int .i64) w_48 (Kx K w.heap.size [some b_44, some b_7]) _ 1) ?_)
          intro w_53 hw_54 B_
          replace R0 := R0.wrote hw_54 (by simp)
          replace B_8 := B_8.wrote hw_54 (by simp) (W.bne (p := 1) (q := 0) (by decide) rfl rfl)
          replace W := W.wrote hw_54 (by simp)
          replace B_45 : Bx (.int .i64) 3 w_53 (Kx K w.heap.size [some b_44, some b_7]) b_44 1 := B_; clear B_
          refine R.wpList_nil ?_
          refine then_n ?_
          obtain rfl := Option.some.inj ej_52
          exact ⟨S.sub (by exact ⟨rfl, rfl, rfl, rfl, trivial⟩), W, R0, B_8, B_45⟩
        · intro hc
          rw [if_neg (Bool.eq_false_iff.1 hc)] at ej_52
          refine R.wp_skip ?_
          refine then_n ?_
          obtain rfl := Option.some.inj ej_52
          exact ⟨S.sub (by exact ⟨rfl, rfl, rfl, rfl, trivial⟩), W, R0, B_8, B_45⟩
      clear S W; rintro a w_55 ⟨S, W, R0, B_8, B_45⟩
      refine then_n ?_
      refine R.wp_seq ?_
      refine R.wp_seq ?_
      refine R.wp_region_lit ?_
      refine R.wl_pure (l' := [(58, .int .i64 x1), (57, v0), (6, pB b_44), (5, pB b_7), (0, v0), (1, .int .i64 x1)]) S tys tys_ok 2 (by kernel_rfl) ?_
      clear S; intro a S
      obtain ⟨t_56, et_56, h⟩ := bindS h
      refine R.w_go S rfl (op_call (vs := [v0, .int .i64 x1]) S rfl cb32 rfl rfl rfl (c32 (Kx K w.heap.size [some b_44, some b_7]) n w_55 x0 _ R0 x1 G1 et_56) ?_)
      rintro _ w_59 ⟨p_61, b_63, rfl, Q_62, B_64, hb_60⟩; refine ⟨_, rfl, ?_⟩
      replace Q_62 := Pr.backO Q_62 W
      replace B_64 := Bx.backO B_64 W
      clear S; intro a S
      replace R0 := R0.box hb_60
      replace B_8 := B_8.box hb_60
      replace B_45 := B_45.box hb_60
      replace W := W.box hb_60
      refine R.wpList_nil ?_
      refine then_n ?_
      replace S := S.sub (l' := [(59, .func (.func 37) #[] #[.pointer (some p_61), pB b_63]), (6, pB b_44), (5, pB b_7), (0, v0)]) (by exact ⟨rfl, rfl, rfl, rfl, trivial⟩)
      obtain ⟨y_70, ey_70, h⟩ := bindS h
      refine R.wp_cut_ (fun a_ w_ => ∃ D_65 l_66 : Nat, (StD [markD D_65] 95 a_ [(6, pB b_44), (5, pB b_7), (0, v0)] ∧ Wd w w_ [some b_63, some l_66, some D_65, some b_44, some b_7] ∧ RepV (.sl gt1) w_ (Kx K w.heap.size [some b_63, some l_66, some D_65, some b_44, some b_7]) v0 x0 ∧ Bx gt1 32 w_ (Kx K w.heap.size [some b_63, some l_66, some D_65, some b_44, some b_7]) b_7 y_1 ∧ Bx (.int .i64) 3 w_ (Kx K w.heap.size [some b_63, some l_66, some D_65, some b_44, some b_7]) b_44 y_70.2 ∧ Ox (.deferred (some [])) w_ D_65)) ?_ ?_
      · refine R.wp_block ?_
        refine R.range S rfl cb37 ?_
        intro fn_ w_71 w_72 D_65 l_66 rec hrec hbD_65 hbl_66 oD_65 ol_66; have S0 := S
        replace Q_62 := Q_62.box hbD_65
        replace R0 := R0.box hbD_65
        replace B_8 := B_8.box hbD_65
        replace B_45 := B_45.box hbD_65
        replace B_64 := B_64.box hbD_65
        replace W := W.box hbD_65
        replace Q_62 := Q_62.box hbl_66
        replace R0 := R0.box hbl_66
        replace B_8 := B_8.box hbl_66
        replace B_45 := B_45.box hbl_66
        replace B_64 := B_64.box hbl_66
        replace oD_65 := oD_65.box hbl_66
        replace W := W.box hbl_66
        replace Q_62 : Pr (.sl gt1) w_72 (Kx K w.heap.size [some b_63, some l_66, some D_65, some b_44, some b_7]) p_61 t_56.1 := Q_62.mv 2 rfl
        replace R0 : RepV (.sl gt1) w_72 (Kx K w.heap.size [some b_63, some l_66, some D_65, some b_44, some b_7]) v0 x0 := R0.mv 2 rfl
        replace B_8 : Bx gt1 32 w_72 (Kx K w.heap.size [some b_63, some l_66, some D_65, some b_44, some b_7]) b_7 y_1 := B_8.mv 2 rfl
        replace B_45 : Bx (.int .i64) 3 w_72 (Kx K w.heap.size [some b_63, some l_66, some D_65, some b_44, some b_7]) b_44 j_52 := B_45.mv 2 rfl
        replace B_64 : Bx (.int .i64) 3 w_72 (Kx K w.heap.size [some b_63, some l_66, some D_65, some b_44, some b_7]) b_63 t_56.2 := B_64.mv 2 rfl
        replace W : Wd w w_72 [some b_63, some l_66, some D_65, some b_44, some b_7] := W.mv 2 rfl
        have hz_ : w.heap.size ≤ w_72.heap.size := W.below.size; have ltD_65 := oD_65.lt; have ltl_66 := ol_66.lt
        refine (c37 K n w w_72 [some l_66, some D_65, some b_44, some b_7] b_63 p_61 _ Q_62 _ B_64 (Nat × ((Int))) (rnd (p30_r1 n)) _ l_66 (fun (b_ : Nat × ((Int))) (LO_ : List (Option Nat)) (w_ : World) => ∃ (k_ : Nat) (s_ : (Int)) , b_ = (k_, s_) ∧ k_ ≤ 0 ∧ LO_ = [some l_66, some D_65, some b_44, some b_7] ∧ Wd w w_ [some b_63, some l_66, some D_65, some b_44, some b_7] ∧ RepV (.sl gt1) w_ (Kx K w.heap.size [some b_63, some l_66, some D_65, some b_44, some b_7]) v0 x0 ∧ Bx gt1 32 w_ (Kx K w.heap.size [some b_63, some l_66, some D_65, some b_44, some b_7]) b_7 y_1 ∧ Bx (.int .i64) 3 w_ (Kx K w.heap.size [some b_63, some l_66, some D_65, some b_44, some b_7]) b_44 s_ ∧ Ox (.deferred (some [])) w_ D_65 ∧ Ox (rk rec [] k_) w_ l_66) W ⟨?_, ⟨0, j_52, rfl, by decide, rfl, W, R0, B_8, B_45, oD_65, ol_66⟩, Nat.le_refl _⟩ ?_ ey_70).mono ?_
        · rintro _ LO_ A_ B_ ⟨k_, s_, rfl, hk_, rfl, W, R0, B_8, B_45, oD_65, ol_66⟩ hab_; exact ⟨k_, s_, rfl, hk_, rfl, W.ab hab_ (by simp) hz_, R0.ab hab_ (by simp), B_8.ab hab_ (by simp) (fun h_ => (W.bne (p := 4) (q := 0) (by decide) rfl rfl) (Option.some.inj (List.mem_singleton.1 h_))), B_45.ab hab_ (by simp) (fun h_ => (W.bne (p := 3) (q := 0) (by decide) rfl rfl) (Option.some.inj (List.mem_singleton.1 h_))), oD_65.ab hab_ ltD_65 (fun h_ => (W.bne (p := 2) (q := 0) (by decide) rfl rfl) (Option.some.inj (List.mem_singleton.1 h_))), ol_66.ab hab_ ltl_66 (fun h_ => (W.bne (p := 1) (q := 0) (by decide) rfl rfl) (Option.some.inj (List.mem_singleton.1 h_)))⟩
        · intro b_ LO_ A_ x_ WA_ G_73 r_ hf_ hJ_
          obtain ⟨s0_, r0_, e1_, hb_, rfl⟩ := rnd_some hf_
          obtain ⟨k_, s_, e2_, hk_, rfl, W, R0, B_8, B_45, oD_65, ol_66⟩ := hJ_
          obtain ⟨q1_, q2_⟩ := Prod.mk.inj (e2_.symm.trans e1_); subst q1_; subst q2_; clear WA_ hf_
          replace ol_66 : Ox (rec .ready none) A_ l_66 := ol_66
          obtain ⟨q_, ob_63⟩ := W.obj (b := b_63) (by simp); have ob0_ := ob_63
          refine yieldAt_of (ps := [60]) (vs := [.int .i64 x_]) hrec S0 ol_66 rfl (by kernel_rfl) ?_; intro a S
          unfold p30_r1 at hb_; try dsimp only at hb_
          have RD := Rnd.start A_ [some b_63, some l_66, some D_65, some b_44, some b_7]
          replace S : St 95 a [(60, .int .i64 x_), (6, pB b_44), (5, pB b_7), (0, v0)] := S.sub (by exact ⟨rfl, rfl, rfl, rfl, trivial⟩)
          refine R.wp_skip ?_
          refine then_n ?_
          refine R.begin hrec ol_66 ?_; intro w_74 hN_ ol_66
          replace R0 := R0.nc hN_
          replace B_8 := B_8.nc hN_
          replace B_45 := B_45.nc hN_
          replace oD_65 := oD_65.nc hN_ (W.bne (p := 2) (q := 1) (by decide) rfl rfl)
          replace ob_63 := ob_63.nc hN_ (W.bne (p := 0) (q := 1) (by decide) rfl rfl)
          replace RD := RD.nc hN_ (by simp)
          replace W := W.nc hN_ (by simp)
          refine R.wp_block ?_
          refine R.wp_region_lit ?_
          refine R.w_go S rfl (op_load (t := (.int .i64)) (x := s_) S rfl ty3 rfl rfl rfl B_45.at_ ?_)
          clear S; intro a v_75 R_76 S
          obtain ⟨rfl, GR_76⟩ := RepV.int R_76
          obtain ⟨x_77, ex_77, hb_⟩ := bindS hb_
          refine R.w_go S rfl (op_arith S .i64 (s_ + 1) rfl (.inl rfl) rfl rfl rfl rfl ex_77 ?_)
          clear S; intro a S
          refine R.w_go S rfl (op_store (t' := (.int .i64)) S rfl rfl ty3 rfl rfl rfl B_45 (by simp) Ln.whole ((RepV.mkInt (ckI_some ex_77).2.1) : RepV (.int .i64) w_74 (Kx K w.heap.size [some b_63, some l_66, some D_65, some b_44, some b_7]) _ x_77) ?_)
          intro w_78 hw_79 B_
          replace R0 := R0.wrote hw_79 (by simp)
          replace B_8 := B_8.wrote hw_79 (by simp) (W.bne (p := 4) (q := 3) (by decide) rfl rfl)
          replace oD_65 := oD_65.wrote hw_79 (by simp) (W.bne (p := 2) (q := 3) (by decide) rfl rfl)
          replace ob_63 := ob_63.wrote hw_79 (by simp) (W.bne (p := 0) (q := 3) (by decide) rfl rfl)
          replace ol_66 := ol_66.wrote hw_79 (by simp) (W.bne (p := 1) (q := 3) (by decide) rfl rfl)
          replace RD := RD.wrote hw_79 (by simp)
          replace W := W.wrote hw_79 (by simp)
          replace B_45 : Bx (.int .i64) 3 w_78 (Kx K w.heap.size [some b_63, some l_66, some D_65, some b_44, some b_7]) b_44 x_77 := B_; clear B_
          refine R.wpList_nil ?_
          refine blk_n ?_
          obtain rfl := Option.some.inj hb_
          refine R.end_n hrec ol_66 ?_; intro w_80 hN_ ol_66
          replace R0 := R0.nc hN_
          replace B_8 := B_8.nc hN_
          replace B_45 := B_45.nc hN_
          replace oD_65 := oD_65.nc hN_ (W.bne (p := 2) (q := 1) (by decide) rfl rfl)
          replace ob_63 := ob_63.nc hN_ (W.bne (p := 0) (q := 1) (by decide) rfl rfl)
          replace RD := RD.nc hN_ (by simp)
          replace W := W.nc hN_ (by simp)
          exact ⟨_, rfl, ⟨0, _, rfl, by decide, rfl, W, R0, B_8, B_45, oD_65, ol_66⟩, (RD.yst W).less1 ob0_ ob_63⟩
        · rintro _ w_81 ⟨hv_, LO_, hJ_⟩; refine ⟨hv_, ?_⟩; clear S W
          obtain ⟨k_, s_, e2_, hk_, rfl, W, R0, B_8, B_45, oD_65, ol_66⟩ := hJ_; subst e2_; have S := S0.mark (D := D_65)
          rcases k_ with _ | k_
          ·
            replace ol_66 : Ox (rec .ready none) w_81 l_66 := ol_66
            refine RP.done hrec ol_66 ?_; intro w_82 hN_
            replace R0 := R0.nc hN_
            replace B_8 := B_8.nc hN_
            replace B_45 := B_45.nc hN_
            replace oD_65 := oD_65.nc hN_ (W.bne (p := 2) (q := 1) (by decide) rfl rfl)
            replace W := W.nc hN_ (by simp)
            replace S : StD [markD D_65] 95 _ [(6, pB b_44), (5, pB b_7), (0, v0)] := S.sub (by exact ⟨rfl, rfl, rfl, trivial⟩)
            refine blk_n ?_
            refine then_n ?_
            exact ⟨D_65, l_66, ⟨S.sub (by exact ⟨rfl, rfl, rfl, trivial⟩), W, R0, B_8, B_45, oD_65⟩⟩
          · exact absurd hk_ (by omega)
      clear S W; rintro a w_83 ⟨D_65, l_66, S, W, R0, B_8, B_45, oD_65⟩
      refine then_n ?_
      refine R.wp_seq ?_
      refine R.wp_seq ?_
      refine R.wp_region_lit ?_
      refine R.wl_pure (l' := [(63, .pointer (some ((⟨b_7, 0, .none⟩ : Addr).add (coff gf1 0)))), (6, pB b_44), (5, pB b_7), (0, v0)]) S tys tys_ok 1 (by kernel_rfl) ?_
      clear S; intro a S
      refine R.w_go S rfl (op_load (t := (.int .i64)) (x := y_1.1) S rfl ty3 rfl rfl rfl (RepAt.add 0 (RepAt.st (t := gf1) B_8.at_)) ?_)
      clear S; intro a v_84 R_85 S
      obtain ⟨rfl, GR_85⟩ := RepV.int R_85
      refine R.wl_pure (l' := [(65, .bool (y_1.1 == (-1))), (64, .int .i64 y_1.1), (63, .pointer (some ((⟨b_7, 0, .none⟩ : Addr).add (coff gf1 0)))), (6, pB b_44), (5, pB b_7), (0, v0)]) S tys tys_ok 1 (by kernel_rfl) ?_
      clear S; intro a S
      refine R.wpList_nil ?_
      refine then_n ?_
      replace S := S.sub (l' := [(65, .bool (y_1.1 == (-1))), (6, pB b_44), (5, pB b_7), (0, v0)]) (by exact ⟨rfl, rfl, rfl, rfl, trivial⟩)
      refine R.wp_cond_split (S.eval (show ev _ _ = some (.bool (y_1.1 == (-1))) from rfl)) ?_ ?_
      · intro hc
        rw [if_pos hc] at h
        refine R.wp_seq ?_
        refine R.wp_region_lit ?_
        refine R.wl_pureK (l' := [(4, .bool true)]) S tys tys_ok 1 [4] (by kernel_rfl) ?_
        clear S; intro a S
        refine R.wpList_nil ?_
        refine then_n ?_
        refine R.wp_ret ?_
        refine then_r ?_
        refine R.leave1 S oD_65 ?_ (by simp)
        clear S; intro a wL hN_ S
        replace B_8 := B_8.nc hN_
        replace B_45 := B_45.nc hN_
        replace W := W.nc hN_ (by simp)
        obtain rfl := Option.some.inj h
        exact b_ret1 S rfl rfl ⟨_, rfl, RepV.mkBool, W.below⟩
      · intro hc
        rw [if_neg (Bool.eq_false_iff.1 hc)] at h
        refine R.wp_skip ?_
        refine then_n ?_
        replace S := S.sub (l' := [(6, pB b_44), (5, pB b_7), (0, v0)]) (by exact ⟨rfl, rfl, rfl, trivial⟩)
        refine R.wp_seq ?_
        refine R.wp_region_lit ?_
        refine R.wl_pure (l' := [(67, .pointer (some ((⟨b_7, 0, .none⟩ : Addr).add (coff gf1 0)))), (66, v0), (6, pB b_44), (5, pB b_7), (0, v0)]) S tys tys_ok 2 (by kernel_rfl) ?_
        clear S; intro a S
        refine R.w_go S rfl (op_load (t := (.int .i64)) (x := y_1.1) S rfl ty3 rfl rfl rfl (RepAt.add 0 (RepAt.st (t := gf1) B_8.at_)) ?_)
        clear S; intro a v_86 R_87 S
        obtain ⟨rfl, GR_87⟩ := RepV.int R_87
        obtain ⟨y_88, ey_88, h⟩ := bindS h
        refine R.w_go S rfl (op_indexAddr S rfl ty24 rfl rfl rfl R0 rfl ey_88 ?_)
        clear S; intro a p_89 R_90 H_91 S
        refine R.w_go S rfl (op_load (t := gt1) (x := y_88) S rfl ty32 rfl rfl rfl R_90 ?_)
        clear S; intro a v_92 R_93 S
        refine R.w_go S rfl (op_alloc (K := K) (n := w.heap.size) (L := [some b_63, some l_66, some D_65, some b_44, some b_7]) (t := gt1) (y := (0, 0, false, false, false, false, 0)) S rfl rfl rfl _ z32 (fun w K => ⟨[.int .i64 0], [.int .u8 0, .bool false, .bool false, .bool false, .bool false, .int .i64 0], rfl, ⟨rfl, by decide⟩, ⟨[.int .u8 0], [.bool false, .bool false, .bool false, .bool false, .int .i64 0], rfl, ⟨rfl, by decide⟩, ⟨[.bool false], [.bool false, .bool false, .bool false, .int .i64 0], rfl, rfl, ⟨[.bool false], [.bool false, .bool false, .int .i64 0], rfl, rfl, ⟨[.bool false], [.bool false, .int .i64 0], rfl, rfl, ⟨[.bool false], [.int .i64 0], rfl, rfl, ⟨rfl, by decide⟩⟩⟩⟩⟩⟩⟩) ?_)
        clear S; intro a w_96 b_94 hb_97 B_95 S
        replace R0 := R0.box hb_97
        replace R_93 := R_93.box hb_97
        replace B_8 := B_8.box hb_97
        replace B_45 := B_45.box hb_97
        replace oD_65 := oD_65.box hb_97
        replace W := W.box hb_97
        refine R.w_go S rfl (op_store (t' := gt1) S rfl rfl ty32 rfl rfl rfl B_95 (by simp) Ln.whole R_93 ?_)
        intro w_98 hw_99 B_
        replace R0 := R0.wrote hw_99 (by simp)
        replace R_93 := R_93.wrote hw_99 (by simp)
        replace B_8 := B_8.wrote hw_99 (by simp) (W.bne (p := 5) (q := 0) (by decide) rfl rfl)
        replace B_45 := B_45.wrote hw_99 (by simp) (W.bne (p := 4) (q := 0) (by decide) rfl rfl)
        replace oD_65 := oD_65.wrote hw_99 (by simp) (W.bne (p := 3) (q := 0) (by decide) rfl rfl)
        replace W := W.wrote hw_99 (by simp)
        replace B_95 : Bx gt1 32 w_98 (Kx K w.heap.size [some b_94, some b_63, some l_66, some D_65, some b_44, some b_7]) b_94 y_88 := B_; clear B_
        refine R.wpList_nil ?_
        refine then_n ?_
        replace S := S.sub (l' := [(7, pB b_94), (6, pB b_44), (5, pB b_7)]) (by exact ⟨rfl, rfl, rfl, trivial⟩)
        refine R.wp_seq ?_
        refine R.wp_region_lit ?_
        refine R.wl_pure (l' := [(71, .pointer (some ((⟨b_94, 0, .none⟩ : Addr).add (coff gf1 2)))), (7, pB b_94), (6, pB b_44), (5, pB b_7)]) S tys tys_ok 1 (by kernel_rfl) ?_
        clear S; intro a S
        refine R.w_go S rfl (op_load (t := .bool) (x := y_88.2.2.1) S rfl ty4 rfl rfl rfl (RepAt.add 2 (RepAt.st (t := gf1) B_95.at_)) ?_)
        clear S; intro a v_100 R_101 S
        obtain rfl := RepV.bool R_101
        refine R.wl_pure (l' := [(73, .bool y_88.2.2.1), (72, .bool y_88.2.2.1), (71, .pointer (some ((⟨b_94, 0, .none⟩ : Addr).add (coff gf1 2)))), (7, pB b_94), (6, pB b_44), (5, pB b_7)]) S tys tys_ok 1 (by kernel_rfl) ?_
        clear S; intro a S
        obtain ⟨q_102, eq_102, h⟩ := bindS h
        refine R.seg 8 (fun a_ w_ => w_98 = w_ ∧ StD [markD D_65] 95 a_ [(81, .bool q_102), (7, pB b_94), (6, pB b_44), (5, pB b_7)]) ?_ ?_
        · by_cases hc : y_88.2.2.1 = true
          · rw [if_pos hc] at eq_102; rw [hc] at S
            refine R.wl_pure (l' := [(74, .pointer (some ((⟨b_94, 0, .none⟩ : Addr).add (coff gf1 3)))), (73, .bool true), (72, .bool true), (71, .pointer (some ((⟨b_94, 0, .none⟩ : Addr).add (coff gf1 2)))), (7, pB b_94), (6, pB b_44), (5, pB b_7)]) S tys tys_ok 1 (by kernel_rfl) ?_
            clear S; intro a S
            refine R.w_go S rfl (op_load (t := .bool) (x := y_88.2.2.2.1) S rfl ty4 rfl rfl rfl (RepAt.add 3 (RepAt.st (t := gf1) B_95.at_)) ?_)
            clear S; intro a v_103 R_104 S
            obtain rfl := RepV.bool R_104
            refine R.wl_pureK (l' := [(76, .bool y_88.2.2.2.1), (73, .bool true), (7, pB b_94), (6, pB b_44), (5, pB b_7)]) S tys tys_ok 1 [76, 73, 7, 6, 5] (by kernel_rfl) ?_
            clear S; intro a S
            obtain ⟨q_105, eq_105, eq_102⟩ := bindS eq_102
            refine R.seg 4 (fun a_ w_ => w_98 = w_ ∧ StD [markD D_65] 95 a_ [(80, .bool q_105), (73, .bool true), (7, pB b_94), (6, pB b_44), (5, pB b_7)]) ?_ ?_
            · by_cases hc : y_88.2.2.2.1 = false
              · rw [if_pos hc] at eq_105; rw [hc] at S
                refine R.wl_pure (l' := [(77, .pointer (some ((⟨b_7, 0, .none⟩ : Addr).add (coff gf1 1)))), (76, .bool false), (73, .bool true), (7, pB b_94), (6, pB b_44), (5, pB b_7)]) S tys tys_ok 1 (by kernel_rfl) ?_
                clear S; intro a S
                refine R.w_go S rfl (op_load (t := (.int .u8)) (x := y_1.2.1) S rfl ty5 rfl rfl rfl (RepAt.add 1 (RepAt.st (t := gf1) B_8.at_)) ?_)
                clear S; intro a v_106 R_107 S
                obtain ⟨rfl, GR_107⟩ := RepV.int R_107
                refine R.wl_pureK (l' := [(80, .bool (decide (y_1.2.1 ≤ 4))), (73, .bool true), (7, pB b_94), (6, pB b_44), (5, pB b_7)]) S tys tys_ok 2 [80, 73, 7, 6, 5] (by kernel_rfl) ?_
                clear S; intro a S
                obtain rfl := Option.some.inj eq_105
                refine R.wpList_nil ?_
                exact ⟨rfl, S.sub (by exact ⟨rfl, rfl, rfl, rfl, rfl, trivial⟩)⟩
              · rw [if_neg hc] at eq_105; rw [show y_88.2.2.2.1 = true from (by simpa using hc)] at S
                refine R.wl_pureK (l' := [(80, .bool true), (73, .bool true), (7, pB b_94), (6, pB b_44), (5, pB b_7)]) S tys tys_ok 4 [80, 73, 7, 6, 5] (by kernel_rfl) ?_
                clear S; intro a S
                obtain rfl := Option.some.inj eq_105
                refine R.wpList_nil ?_
                exact ⟨rfl, S.sub (by exact ⟨rfl, rfl, rfl, rfl, rfl, trivial⟩)⟩
            clear S eq_105; rintro a _ ⟨rfl, S⟩
            refine R.wl_pure (l' := [(81, .bool q_105), (80, .bool q_105), (73, .bool true), (7, pB b_94), (6, pB b_44), (5, pB b_7)]) S tys tys_ok 1 (by kernel_rfl) ?_
            clear S; intro a S
            obtain rfl := Option.some.inj eq_102
            refine R.wpList_nil ?_
            exact ⟨rfl, S.sub (by exact ⟨rfl, rfl, rfl, rfl, trivial⟩)⟩
          · rw [if_neg hc] at eq_102; rw [show y_88.2.2.1 = false from Bool.eq_false_iff.2 hc] at S
            refine R.wl_pureK (l' := [(81, .bool false), (7, pB b_94), (6, pB b_44), (5, pB b_7)]) S tys tys_ok 8 [81, 7, 6, 5] (by kernel_rfl) ?_
            clear S; intro a S
            obtain rfl := Option.some.inj eq_102
            refine R.wpList_nil ?_
            exact ⟨rfl, S.sub (by exact ⟨rfl, rfl, rfl, rfl, trivial⟩)⟩
        clear S eq_102; rintro a _ ⟨rfl, S⟩
        refine R.wl_pure (l' := [(82, .bool q_102), (81, .bool q_102), (7, pB b_94), (6, pB b_44), (5, pB b_7)]) S tys tys_ok 1 (by kernel_rfl) ?_
        clear S; intro a S
        obtain ⟨q_108, eq_108, h⟩ := bindS h
        refine R.seg 8 (fun a_ w_ => w_98 = w_ ∧ StD [markD D_65] 95 a_ [(90, .bool q_108), (6, pB b_44)]) ?_ ?_
        · by_cases hc : q_102 = true
          · rw [if_pos hc] at eq_108; rw [hc] at S
            refine R.wl_pure (l' := [(83, .pointer (some ((⟨b_7, 0, .none⟩ : Addr).add (coff gf1 5)))), (82, .bool true), (81, .bool true), (7, pB b_94), (6, pB b_44), (5, pB b_7)]) S tys tys_ok 1 (by kernel_rfl) ?_
            clear S; intro a S
            refine R.w_go S rfl (op_load (t := .bool) (x := y_1.2.2.2.2.2.1) S rfl ty4 rfl rfl rfl (RepAt.add 5 (RepAt.st (t := gf1) B_8.at_)) ?_)
            clear S; intro a v_109 R_110 S
            obtain rfl := RepV.bool R_110
            refine R.wl_pureK (l' := [(85, .bool y_1.2.2.2.2.2.1), (82, .bool true), (7, pB b_94), (6, pB b_44)]) S tys tys_ok 1 [85, 82, 7, 6] (by kernel_rfl) ?_
            clear S; intro a S
            obtain ⟨q_111, eq_111, eq_108⟩ := bindS eq_108
            refine R.seg 4 (fun a_ w_ => w_98 = w_ ∧ StD [markD D_65] 95 a_ [(89, .bool q_111), (82, .bool true), (6, pB b_44)]) ?_ ?_
            · by_cases hc : y_1.2.2.2.2.2.1 = false
              · rw [if_pos hc] at eq_111; rw [hc] at S
                refine R.wl_pure (l' := [(86, .pointer (some ((⟨b_94, 0, .none⟩ : Addr).add (coff gf1 5)))), (85, .bool false), (82, .bool true), (7, pB b_94), (6, pB b_44)]) S tys tys_ok 1 (by kernel_rfl) ?_
                clear S; intro a S
                refine R.w_go S rfl (op_load (t := .bool) (x := y_88.2.2.2.2.2.1) S rfl ty4 rfl rfl rfl (RepAt.add 5 (RepAt.st (t := gf1) B_95.at_)) ?_)
                clear S; intro a v_112 R_113 S
                obtain rfl := RepV.bool R_113
                refine R.wl_pureK (l' := [(89, .bool (!y_88.2.2.2.2.2.1)), (82, .bool true), (6, pB b_44)]) S tys tys_ok 2 [89, 82, 6] (by kernel_rfl) ?_
                clear S; intro a S
                obtain rfl := Option.some.inj eq_111
                refine R.wpList_nil ?_
                exact ⟨rfl, S.sub (by exact ⟨rfl, rfl, rfl, trivial⟩)⟩
              · rw [if_neg hc] at eq_111; rw [show y_1.2.2.2.2.2.1 = true from (by simpa using hc)] at S
                refine R.wl_pureK (l' := [(89, .bool true), (82, .bool true), (6, pB b_44)]) S tys tys_ok 4 [89, 82, 6] (by kernel_rfl) ?_
                clear S; intro a S
                obtain rfl := Option.some.inj eq_111
                refine R.wpList_nil ?_
                exact ⟨rfl, S.sub (by exact ⟨rfl, rfl, rfl, trivial⟩)⟩
            clear S eq_111; rintro a _ ⟨rfl, S⟩
            refine R.wl_pure (l' := [(90, .bool q_111), (89, .bool q_111), (82, .bool true), (6, pB b_44)]) S tys tys_ok 1 (by kernel_rfl) ?_
            clear S; intro a S
            obtain rfl := Option.some.inj eq_108
            refine R.wpList_nil ?_
            exact ⟨rfl, S.sub (by exact ⟨rfl, rfl, trivial⟩)⟩
          · rw [if_neg hc] at eq_108; rw [show q_102 = false from Bool.eq_false_iff.2 hc] at S
            refine R.wl_pureK (l' := [(90, .bool false), (6, pB b_44)]) S tys tys_ok 8 [90, 6] (by kernel_rfl) ?_
            clear S; intro a S
            obtain rfl := Option.some.inj eq_108
            refine R.wpList_nil ?_
            exact ⟨rfl, S.sub (by exact ⟨rfl, rfl, trivial⟩)⟩
        clear S eq_108; rintro a _ ⟨rfl, S⟩
        refine R.wl_pure (l' := [(91, .bool q_108), (90, .bool q_108), (6, pB b_44)]) S tys tys_ok 1 (by kernel_rfl) ?_
        clear S; intro a S
        obtain ⟨q_114, eq_114, h⟩ := bindS h
        refine R.seg 3 (fun a_ w_ => w_98 = w_ ∧ StD [markD D_65] 95 a_ [(94, .bool q_114)]) ?_ ?_
        · by_cases hc : q_108 = true
          · rw [if_pos hc] at eq_114; rw [hc] at S
            refine R.w_go S rfl (op_load (t := (.int .i64)) (x := y_70.2) S rfl ty3 rfl rfl rfl B_45.at_ ?_)
            clear S; intro a v_115 R_116 S
            obtain ⟨rfl, GR_116⟩ := RepV.int R_116
            refine R.wl_pureK (l' := [(94, .bool (decide (y_70.2 ≤ 5)))]) S tys tys_ok 2 [94] (by kernel_rfl) ?_
            clear S; intro a S
            obtain rfl := Option.some.inj eq_114
            refine R.wpList_nil ?_
            exact ⟨rfl, S.sub (by exact ⟨rfl, trivial⟩)⟩
          · rw [if_neg hc] at eq_114; rw [show q_108 = false from Bool.eq_false_iff.2 hc] at S
            refine R.wl_pureK (l' := [(94, .bool false)]) S tys tys_ok 3 [94] (by kernel_rfl) ?_
            clear S; intro a S
            obtain rfl := Option.some.inj eq_114
            refine R.wpList_nil ?_
            exact ⟨rfl, S.sub (by exact ⟨rfl, trivial⟩)⟩
        clear S eq_114; rintro a _ ⟨rfl, S⟩
        refine R.wl_pure (l' := [(4, .bool q_114), (94, .bool q_114)]) S tys tys_ok 1 (by kernel_rfl) ?_
        clear S; intro a S
        refine R.wpList_nil ?_
        refine then_n ?_
        replace S := S.sub (l' := [(4, .bool q_114)]) (by exact ⟨rfl, trivial⟩)
        refine R.wp_ret ?_
        refine R.leave1 S oD_65 ?_ (by simp)
        clear S; intro a wL hN_ S
        replace B_8 := B_8.nc hN_
        replace B_45 := B_45.nc hN_
        replace B_95 := B_95.nc hN_
        replace W := W.nc hN_ (by simp)
        obtain rfl := Option.some.inj h
        exact b_ret1 S rfl rfl ⟨_, rfl, RepV.mkBool, W.below⟩
theorem cb30 : callB Try.prog 30 = true := by kernel_rfl
def p17_l1 (n : Nat) (x0 : Sl (Int × Int × Bool × Bool × Bool × Bool × Int)) : Nat → (Int) → Option ((Unit) ⊕ ((Int)))
  | 0, _ => .none
  | m + 1, c_3 => if (decide (c_3 < (lenI x0))) then ((p30 n x0 c_3).bind fun t_12 => if (!t_12) then (some (.inr 1)) else (ckI .i64 (c_3 + 1)).bind fun x_17 => p17_l1 n x0 m x_17) else some (.inl ())
def p17 (n : Nat) (x0 : Sl (Int × Int × Bool × Bool × Bool × Bool × Int)) : Option ((Int)) :=
  if (decide ((lenI x0) > 127)) then (some 3) else (p17_l1 n x0 n 0).bind fun (y_7 : (Unit) ⊕ ((Int))) => lrK y_7 some fun (s_8 : Unit) => some 0
set_option maxHeartbeats 4000000 in
set_option maxRecDepth 100000 in
/-- plugboard/powers.Check -/
theorem c17 (K : Nat → Prop) (n : Nat) (w : World) (x0 : Sl (Int × Int × Bool × Bool × Bool × Bool × Int)) (v0 : Value) (R0 : RepV (.sl gt1) w K v0 x0) {r : (Int)} (h : p17 n x0 = some r) :
    Calls Try.prog 17 #[v0] w (Ret1 (.int .i64) w (Kx K w.heap.size []) r) := by
  refine enter (args := [v0]) Try.func17 rfl 17 rfl rfl fun a S => ?_
  have W := Wd.start w
  replace R0 := R0.arg
  unfold p17 at h
  replace S : St 17 a [(0, v0)] := S
  refine wp_seq ?_
  refine wp_region_lit ?_
  refine wl_pure (l' := [(2, .int .i64 0), (0, v0)]) S tys tys_ok 1 (by kernel_rfl) ?_
  clear S; intro a S
  refine wpList_nil ?_
  refine then_n ?_
  replace S := S.sub (l' := [(0, v0)]) (by exact ⟨rfl, trivial⟩)
  refine wp_seq ?_
  refine wp_seq ?_
  refine wp_region_lit ?_
  refine wl_pure (l' := [(4, v0), (0, v0)]) S tys tys_ok 1 (by kernel_rfl) ?_
  clear S; intro a S
  refine w_go S rfl (op_len (K := _) S rfl ty24 rfl rfl rfl R0 ?_)
  clear S; intro a G_1 S
  refine wl_pure (l' := [(6, .bool (decide ((lenI x0) > 127))), (5, .int .i64 (lenI x0)), (4, v0), (0, v0)]) S tys tys_ok 1 (by kernel_rfl) ?_
  clear S; intro a S
  refine wpList_nil ?_
  refine then_n ?_
  replace S := S.sub (l' := [(6, .bool (decide ((lenI x0) > 127))), (0, v0)]) (by exact ⟨rfl, rfl, trivial⟩)
  refine wp_cond_split (S.eval (show ev _ _ = some (.bool (decide ((lenI x0) > 127))) from rfl)) ?_ ?_
  · intro hc
    rw [if_pos hc] at h
    refine wp_seq ?_
    refine wp_region_lit ?_
    refine wl_pure (l' := [(2, .int .i64 3), (6, .bool (decide ((lenI x0) > 127))), (0, v0)]) S tys tys_ok 1 (by kernel_rfl) ?_
    clear S; intro a S
    refine wpList_nil ?_
    refine then_n ?_
    replace S := S.sub (l' := [(2, .int .i64 3)]) (by exact ⟨rfl, trivial⟩)
    refine wp_ret ?_
    refine then_r ?_
    obtain rfl := Option.some.inj h
    exact b_ret1 S rfl rfl ⟨_, rfl, (RepV.mkInt (by decide)), W.below⟩
  · intro hc
    rw [if_neg (Bool.eq_false_iff.1 hc)] at h
    refine wp_skip ?_
    refine then_n ?_
    replace S := S.sub (l' := [(0, v0)]) (by exact ⟨rfl, trivial⟩)
    refine wp_seq ?_
    refine wp_seq ?_
    refine wp_region_lit ?_
    refine wl_pure (l' := [(7, v0), (0, v0)]) S tys tys_ok 1 (by kernel_rfl) ?_
    clear S; intro a S
    refine w_go S rfl (op_len (K := _) S rfl ty24 rfl rfl rfl R0 ?_)
    clear S; intro a G_2 S
    refine wl_pure (l' := [(9, .int .i64 0), (8, .int .i64 (lenI x0)), (7, v0), (0, v0)]) S tys tys_ok 1 (by kernel_rfl) ?_
    clear S; intro a S
    refine wpList_nil ?_
    refine then_n ?_
    replace S := S.sub (l' := [(9, .int .i64 0), (8, .int .i64 (lenI x0)), (0, v0)]) (by exact ⟨rfl, rfl, rfl, trivial⟩)
    obtain ⟨y_7, ey_7, h⟩ := bindS h
    refine wp_cut_ (fun a_ w_ => ∃ s_8 : Unit, y_7 = .inl s_8 ∧ (St 17 a_ [] ∧ Wd w w_ [])) ?_ ?_
    · refine wp_block ?_
      refine wp_loop_n (fun m_ a_ w_ => ∃ (c_3 : Int) , St 17 a_ [(9, .int .i64 c_3), (8, .int .i64 (lenI x0)), (0, v0)] ∧ Wd w w_ [] ∧ InR .i64 c_3 ∧ RepV (.sl gt1) w_ (Kx K w.heap.size []) v0 x0 ∧ p17_l1 n x0 m_ c_3 = some y_7) n ?_ ?_
      · skip
        exact ⟨0, ⟨S.sub (by exact ⟨rfl, rfl, rfl, trivial⟩), W, (by decide), R0, ey_7⟩⟩
      · clear S W; rintro m_9 a w_11 ⟨c_3, S, W, G_4, R0, hl_10⟩
        cases m_9 with
        | zero => exact absurd hl_10 (by simp [p17_l1])
        | succ m_9 =>
          refine ⟨m_9, rfl, ?_⟩
          rw [p17_l1] at hl_10
          refine wp_seq ?_
          refine wp_region_lit ?_
          refine wl_pure (l' := [(10, .bool (decide (c_3 < (lenI x0)))), (9, .int .i64 c_3), (8, .int .i64 (lenI x0)), (0, v0)]) S tys tys_ok 1 (by kernel_rfl) ?_
          clear S; intro a S
          refine wpList_nil ?_
          refine then_n ?_
          refine wp_seq ?_
          refine wp_cond_split (S.eval (show ev _ _ = some (.bool (decide (c_3 < (lenI x0)))) from rfl)) ?_ ?_
          · intro hc
            rw [if_pos hc] at hl_10
            refine wp_skip ?_
            refine then_n ?_
            replace S := S.sub (l' := [(9, .int .i64 c_3), (8, .int .i64 (lenI x0)), (0, v0)]) (by exact ⟨rfl, rfl, rfl, trivial⟩)
            refine wp_seq ?_
            refine wp_block ?_
            refine wp_seq ?_
            refine wp_region_lit ?_
            refine wl_pure (l' := [(3, .int .i64 c_3), (11, .int .i64 c_3), (9, .int .i64 c_3), (8, .int .i64 (lenI x0)), (0, v0)]) S tys tys_ok 2 (by kernel_rfl) ?_
            clear S; intro a S
            refine wpList_nil ?_
            refine then_n ?_
            replace S := S.sub (l' := [(3, .int .i64 c_3), (9, .int .i64 c_3), (8, .int .i64 (lenI x0)), (0, v0)]) (by exact ⟨rfl, rfl, rfl, rfl, trivial⟩)
            refine wp_seq ?_
            refine wp_region_lit ?_
            refine wl_pure (l' := [(13, .int .i64 c_3), (12, v0), (3, .int .i64 c_3), (9, .int .i64 c_3), (8, .int .i64 (lenI x0)), (0, v0)]) S tys tys_ok 2 (by kernel_rfl) ?_
            clear S; intro a S
            obtain ⟨t_12, et_12, hl_10⟩ := bindS hl_10
            refine w_go S rfl (op_call (vs := [v0, .int .i64 c_3]) S rfl cb30 rfl rfl rfl (c30 (Kx K w.heap.size []) n w_11 x0 _ R0 c_3 G_4 et_12) ?_)
            rintro _ w_16 ⟨v_13, rfl, R_14, hb_15⟩; refine ⟨_, rfl, ?_⟩
            replace R_14 := RepV.back R_14 W
            clear S; intro a S
            replace R0 := R0.step hb_15
            replace W := W.step hb_15
            obtain rfl := RepV.bool R_14
            refine wl_pureK (l' := [(15, .bool (!t_12)), (9, .int .i64 c_3), (8, .int .i64 (lenI x0)), (0, v0)]) S tys tys_ok 1 [15, 9, 8, 0] (by kernel_rfl) ?_
            clear S; intro a S
            refine wpList_nil ?_
            refine then_n ?_
            refine wp_cond_split (S.eval (show ev _ _ = some (.bool (!t_12)) from rfl)) ?_ ?_
            · intro hc
              rw [if_pos hc] at hl_10
              refine wp_seq ?_
              refine wp_region_lit ?_
              refine wl_pureK (l' := [(2, .int .i64 1)]) S tys tys_ok 1 [2] (by kernel_rfl) ?_
              clear S; intro a S
              refine wpList_nil ?_
              refine then_n ?_
              refine wp_ret ?_
              refine blk_r ?_
              refine then_r ?_
              refine then_r ?_
              refine blk_r ?_
              refine then_r ?_
              refine then_r ?_
              obtain rfl := Option.some.inj hl_10
              obtain rfl := lr_inr h
              exact b_ret1 S rfl rfl ⟨_, rfl, (RepV.mkInt (by decide)), W.below⟩
            · intro hc
              rw [if_neg (Bool.eq_false_iff.1 hc)] at hl_10
              refine wp_skip ?_
              refine blk_n ?_
              refine then_n ?_
              replace S := S.sub (l' := [(9, .int .i64 c_3), (8, .int .i64 (lenI x0)), (0, v0)]) (by exact ⟨rfl, rfl, rfl, trivial⟩)
              refine wp_region_lit ?_
              obtain ⟨x_17, ex_17, hl_10⟩ := bindS hl_10
              refine w_go S rfl (op_arith S .i64 (c_3 + 1) rfl (.inl rfl) rfl rfl rfl rfl ex_17 ?_)
              clear S; intro a S
              refine wl_pure (l' := [(9, .int .i64 x_17), (16, .int .i64 x_17), (9, .int .i64 c_3), (8, .int .i64 (lenI x0)), (0, v0)]) S tys tys_ok 1 (by kernel_rfl) ?_
              clear S; intro a S
              refine wpList_nil ?_
              refine then_n ?_
              exact ⟨x_17, ⟨S.sub (by exact ⟨rfl, rfl, rfl, trivial⟩), W, (ckI_some ex_17).2.1, R0, hl_10⟩⟩
          · intro hc
            rw [if_neg (Bool.eq_false_iff.1 hc)] at hl_10
            refine wp_exit ?_
            refine then_x ?_
            refine then_x ?_
            refine blk_hit ?_
            refine then_n ?_
            obtain rfl := Option.some.inj hl_10
            exact ⟨_, rfl, ⟨S.sub trivial, W⟩⟩
    clear S W; rintro a w_18 ⟨s_8, rfl, S, W⟩
    replace h := lr_inl h; try dsimp only at h
    refine then_n ?_
    refine wp_seq ?_
    refine wp_region_lit ?_
    refine wl_pure (l' := [(2, .int .i64 0)]) S tys tys_ok 1 (by kernel_rfl) ?_
    clear S; intro a S
    refine wpList_nil ?_
    refine then_n ?_
    refine wp_ret ?_
    obtain rfl := Option.some.inj h
    exact b_ret1 S rfl rfl ⟨_, rfl, (RepV.mkInt (by decide)), W.below⟩
theorem cb17 : callB Try.prog 17 = true := by kernel_rfl
def p38_l1 (n : Nat) (Be : Type) (y0 : Sl (Int × Int × Bool × Bool × Bool × Bool × Int)) (f : Be → ((Int) × (Int × Int × Bool × Bool × Bool × Bool × Int)) → Option (Bool × Be)) : Nat → (Int) → (Be) → Option (((Be)) ⊕ (Be))
  | 0, _, _ => .none
  | m + 1, c_7, c_9 => if (decide (c_7 ≥ 0)) then ((idx y0.xs c_7).bind fun y_22 => (f c_9 (c_7, y_22)).bind fun t_28 => if (!t_28.1) then (some (.inr t_28.2)) else (ckI .i64 (c_7 - 1)).bind fun x_33 => p38_l1 n Be y0 f m x_33 t_28.2) else some (.inl c_9)
def p38 (n : Nat) (y0 : Sl (Int × Int × Bool × Bool × Bool × Bool × Int)) (Be : Type) (f : Be → ((Int) × (Int × Int × Bool × Bool × Bool × Bool × Int)) → Option (Bool × Be)) (s0 : Be) : Option Be :=
  (ckI .i64 ((lenI y0) - 1)).bind fun x_4 =>
  (p38_l1 n Be y0 f n x_4 s0).bind fun (y_15 : ((Be)) ⊕ (Be)) =>
  lrK y_15 some fun (s_16 : (Be)) =>
  some s_16
set_option maxHeartbeats 4000000 in
set_option maxRecDepth 100000 in
/-- slices.Backward[[]plugboard/powers.Item,plugboard/powers.Item]$1 -/
theorem c38 (K : Nat → Prop) (n : Nat) (w wA : World) (LO : List (Option Nat)) (p0 : Addr) (y0 : Sl (Int × Int × Bool × Bool × Bool × Bool × Int)) (Q0 : Pr (.sl gt1) wA (Kx K w.heap.size LO) p0 y0) (Be : Type) (f : Be → ((Int) × (Int × Int × Bool × Bool × Bool × Bool × Int)) → Option (Bool × Be)) (s0 : Be) (l : Nat) (Inv : Be → List (Option Nat) → World → Prop) (W : Wd w wA LO) (J_ : JI Inv [] wA.heap.size LO wA s0)
    (hY : ∀ (b_ : Be) (LO_ : List (Option Nat)) (A_ : World) (x_ : (Int) × (Int × Int × Bool × Bool × Bool × Bool × Int)) (v1_ : Value), Wd w A_ LO_ → InR .i64 x_.1 → RepV gt1 A_ (Kx K w.heap.size LO_) v1_ x_.2 → ∀ r_, f b_ x_ = some r_ → Inv b_ LO_ A_ → YieldAt Fence.wide 0 Try.prog l [.int .i64 x_.1, v1_].toArray A_ fun e_ B_ => ∃ LO2_, e_ = .returned (.bool r_.1) ∧ Inv r_.2 LO2_ B_ ∧ Yst w.heap.size A_ LO_ B_ LO2_)
    {r : Be} (h : p38 n y0 Be f s0 = some r) :
    Calls Try.prog 38 #[.func (.yield l) #[] #[], .pointer (some p0)] wA (fun e_ w_ => (∃ v_, e_ = .returned v_) ∧ ∃ LO_, Inv r LO_ w_) := by
  refine R.enter (args := [.func (.yield l) #[] #[], .pointer (some p0)]) Try.func38 rfl 19 rfl rfl (fun _ h_ => by obtain ⟨⟨_, q_⟩, _⟩ := h_; cases q_) fun a S => ?_
  unfold p38 at h
  replace S : St 19 a [(0, .func (.yield l) #[] #[]), (1, .pointer (some p0))] := S
  refine R.wp_seq ?_
  refine R.wp_region_lit ?_
  refine R.w_go S rfl (op_load (t := (.sl gt1)) (x := y0) S rfl ty24 rfl rfl rfl Q0.1 ?_)
  clear S; intro a v_1 R_2 S
  refine R.w_go S rfl (op_len (K := _) S rfl ty24 rfl rfl rfl R_2 ?_)
  clear S; intro a G_3 S
  obtain ⟨x_4, ex_4, h⟩ := bindS h
  refine R.w_go S rfl (op_arith S .i64 ((lenI y0) - 1) rfl (.inr (.inl rfl)) rfl rfl rfl rfl ex_4 ?_)
  clear S; intro a S
  refine R.wl_pureK (l' := [(3, .int .i64 x_4), (0, .func (.yield l) #[] #[]), (1, .pointer (some p0))]) S tys tys_ok 1 [3, 0, 1] (by kernel_rfl) ?_
  clear S; intro a S
  refine R.wpList_nil ?_
  refine then_n ?_
  obtain ⟨y_15, ey_15, h⟩ := bindS h
  refine R.wp_cut_ (fun a_ w_ => ∃ s_16 : (Be), y_15 = .inl s_16 ∧ (∃ (LO_14 : List (Option Nat)), St 19 a_ [] ∧ Wd w w_ LO_14 ∧ JI Inv [] wA.heap.size LO_14 w_ s_16)) ?_ ?_
  · refine R.wp_block ?_
    refine R.wp_loop_n (fun m_ a_ w_ => ∃ (c_7 : Int) (c_9 : Be) , ∃ (LO_6 : List (Option Nat)), St 19 a_ [(3, .int .i64 c_7), (0, .func (.yield l) #[] #[]), (1, .pointer (some p0))] ∧ Wd w w_ LO_6 ∧ InR .i64 c_7 ∧ Pr (.sl gt1) w_ (Kx K w.heap.size LO_6) p0 y0 ∧ JI Inv [] wA.heap.size LO_6 w_ c_9 ∧ p38_l1 n Be y0 f m_ c_7 c_9 = some y_15) n ?_ ?_
    · skip
      exact ⟨x_4, s0, ⟨LO, S.sub (by exact ⟨rfl, rfl, rfl, trivial⟩), W, (ckI_some ex_4).2.1, Q0, J_, ey_15⟩⟩
    · clear S W; rintro m_17 a w_19 ⟨c_7, c_9, LO_6, S, W, G_8, Q0, J_, hl_18⟩
      cases m_17 with
      | zero => exact absurd hl_18 (by simp [p38_l1])
      | succ m_17 =>
        refine ⟨m_17, rfl, ?_⟩
        rw [p38_l1] at hl_18
        refine R.wp_seq ?_
        refine R.wp_seq ?_
        refine R.wp_region_lit ?_
        refine R.wl_pure (l' := [(8, .bool (decide (c_7 ≥ 0))), (7, .int .i64 c_7), (3, .int .i64 c_7), (0, .func (.yield l) #[] #[]), (1, .pointer (some p0))]) S tys tys_ok 2 (by kernel_rfl) ?_
        clear S; intro a S
        refine R.wpList_nil ?_
        refine then_n ?_
        replace S := S.sub (l' := [(8, .bool (decide (c_7 ≥ 0))), (3, .int .i64 c_7), (0, .func (.yield l) #[] #[]), (1, .pointer (some p0))]) (by exact ⟨rfl, rfl, rfl, rfl, trivial⟩)
        refine R.wp_cond_split (S.eval (show ev _ _ = some (.bool (decide (c_7 ≥ 0))) from rfl)) ?_ ?_
        · intro hc
          rw [if_pos hc] at hl_18
          refine R.wp_skip ?_
          refine then_n ?_
          replace S := S.sub (l' := [(3, .int .i64 c_7), (0, .func (.yield l) #[] #[]), (1, .pointer (some p0))]) (by exact ⟨rfl, rfl, rfl, trivial⟩)
          refine R.wp_seq ?_
          refine R.wp_block ?_
          refine R.wp_seq ?_
          refine R.wp_region_lit ?_
          refine R.wl_pure (l' := [(12, .int .i64 c_7), (11, .func (.yield l) #[] #[]), (3, .int .i64 c_7), (0, .func (.yield l) #[] #[]), (1, .pointer (some p0))]) S tys tys_ok 2 (by kernel_rfl) ?_
          clear S; intro a S
          refine R.w_go S rfl (op_load (t := (.sl gt1)) (x := y0) S rfl ty24 rfl rfl rfl Q0.1 ?_)
          clear S; intro a v_20 R_21 S
          refine R.wl_pure (l' := [(14, .int .i64 c_7), (13, v_20), (12, .int .i64 c_7), (11, .func (.yield l) #[] #[]), (3, .int .i64 c_7), (0, .func (.yield l) #[] #[]), (1, .pointer (some p0))]) S tys tys_ok 1 (by kernel_rfl) ?_
          clear S; intro a S
          obtain ⟨y_22, ey_22, hl_18⟩ := bindS hl_18
          refine R.w_go S rfl (op_indexAddr S rfl ty24 rfl rfl rfl R_21 rfl ey_22 ?_)
          clear S; intro a p_23 R_24 H_25 S
          refine R.w_go S rfl (op_load (t := gt1) (x := y_22) S rfl ty32 rfl rfl rfl R_24 ?_)
          clear S; intro a v_26 R_27 S
          obtain ⟨t_28, et_28, hl_18⟩ := bindS hl_18
          refine R.w_yield (vs := [.int .i64 c_7, v_26]) S rfl rfl rfl rfl rfl rfl (hY _ LO_6 w_19 (c_7, y_22) v_26 W G_8 R_27 _ et_28 J_.inv) ?_
          rintro _ w_29 ⟨LO_30, rfl, hJ_31, Y_32⟩; refine ⟨_, rfl, ?_⟩; clear S; intro a S
          replace Q0 : Pr (.sl gt1) w_29 (Kx K w.heap.size LO_30) p0 y0 := Pr.yst [] Q0 Y_32
          replace R_21 : RepV (.sl gt1) w_29 (Kx K w.heap.size LO_30) v_20 y0 := RepV.yst [] R_21 Y_32
          replace R_27 : RepV gt1 w_29 (Kx K w.heap.size LO_30) v_26 y_22 := RepV.yst [] R_27 Y_32
          replace J_ : JI Inv [] wA.heap.size LO_30 w_29 t_28.2 := ⟨J_.ab, hJ_31, Nat.le_trans J_.hn Y_32.size⟩
          replace W : Wd w w_29 LO_30 := Wd.yst [] W Y_32
          refine R.wl_pureK (l' := [(18, .bool (!t_28.1)), (3, .int .i64 c_7), (0, .func (.yield l) #[] #[]), (1, .pointer (some p0))]) S tys tys_ok 1 [18, 3, 0, 1] (by kernel_rfl) ?_
          clear S; intro a S
          refine R.wpList_nil ?_
          refine then_n ?_
          refine R.wp_cond_split (S.eval (show ev _ _ = some (.bool (!t_28.1)) from rfl)) ?_ ?_
          · intro hc
            rw [if_pos hc] at hl_18
            refine R.wp_ret ?_
            refine blk_r ?_
            refine then_r ?_
            refine then_r ?_
            refine blk_r ?_
            refine then_r ?_
            refine R.leave0 S ?_ (by simp)
            clear S; intro a S
            obtain rfl := Option.some.inj hl_18
            obtain rfl := lr_inr h
            exact b_ret0 S rfl fun _ => ⟨⟨_, rfl⟩, _, J_.inv⟩
          · intro hc
            rw [if_neg (Bool.eq_false_iff.1 hc)] at hl_18
            refine R.wp_skip ?_
            refine blk_n ?_
            refine then_n ?_
            replace S := S.sub (l' := [(3, .int .i64 c_7), (0, .func (.yield l) #[] #[]), (1, .pointer (some p0))]) (by exact ⟨rfl, rfl, rfl, trivial⟩)
            refine R.wp_region_lit ?_
            refine R.wl_pure (l' := [(9, .int .i64 c_7), (3, .int .i64 c_7), (0, .func (.yield l) #[] #[]), (1, .pointer (some p0))]) S tys tys_ok 1 (by kernel_rfl) ?_
            clear S; intro a S
            obtain ⟨x_33, ex_33, hl_18⟩ := bindS hl_18
            refine R.w_go S rfl (op_arith S .i64 (c_7 - 1) rfl (.inr (.inl rfl)) rfl rfl rfl rfl ex_33 ?_)
            clear S; intro a S
            refine R.wl_pure (l' := [(3, .int .i64 x_33), (10, .int .i64 x_33), (9, .int .i64 c_7), (3, .int .i64 c_7), (0, .func (.yield l) #[] #[]), (1, .pointer (some p0))]) S tys tys_ok 1 (by kernel_rfl) ?_
            clear S; intro a S
            refine R.wpList_nil ?_
            refine then_n ?_
            exact ⟨x_33, t_28.2, ⟨LO_30, S.sub (by exact ⟨rfl, rfl, rfl, trivial⟩), W, (ckI_some ex_33).2.1, Q0, J_, hl_18⟩⟩
        · intro hc
          rw [if_neg (Bool.eq_false_iff.1 hc)] at hl_18
          refine R.wp_exit ?_
          refine then_x ?_
          refine then_x ?_
          refine blk_hit ?_
          refine then_n ?_
          obtain rfl := Option.some.inj hl_18
          exact ⟨_, rfl, ⟨LO_6, S.sub trivial, W, J_⟩⟩
  clear S W; rintro a w_34 ⟨s_16, rfl, LO_14, S, W, J_⟩
  replace h := lr_inl h; try dsimp only at h
  refine R.leave0 S ?_ (by simp)
  clear S; intro a S
  obtain rfl := Option.some.inj h
  exact b_ret0 S rfl fun _ => ⟨⟨_, rfl⟩, _, J_.inv⟩
theorem cb38 : callB Try.prog 38 = true := by kernel_rfl
def p33 (n : Nat) (x0 : Sl (Int × Int × Bool × Bool × Bool × Bool × Int)) : Option ((Sl (Int × Int × Bool × Bool × Bool × Bool × Int))) :=
  some x0
set_option maxHeartbeats 4000000 in
set_option maxRecDepth 100000 in
/-- slices.Backward[[]plugboard/powers.Item,plugboard/powers.Item] -/
theorem c33 (K : Nat → Prop) (n : Nat) (w : World) (x0 : Sl (Int × Int × Bool × Bool × Bool × Bool × Int)) (v0 : Value) (R0 : RepV (.sl gt1) w K v0 x0) {r : (Sl (Int × Int × Bool × Bool × Bool × Bool × Int))} (h : p33 n x0 = some r) :
    Calls Try.prog 33 #[v0] w (fun e_ w_ => ∃ (p0_ : Addr), e_ = .returned (.func (.func 38) #[] #[.pointer (some p0_)]) ∧ Pr (.sl gt1) w_ (Kx K w.heap.size []) p0_ r ∧ Below w.heap.size w w_) := by
  refine enter (args := [v0]) Try.func33 rfl 4 rfl rfl fun a S => ?_
  have W := Wd.start w
  replace R0 := R0.arg
  unfold p33 at h
  replace S : St 4 a [(0, v0)] := S
  refine wp_seq ?_
  refine wp_region_lit ?_
  refine w_go S rfl (op_box S rfl rfl rfl rfl rfl R0 ?_)
  clear S; intro a w_3 b_1 hb_4 B_2 S
  replace R0 := R0.box hb_4
  replace W := W.box hb_4
  refine wl_pure (l' := [(2, .nilFunc), (1, pB b_1), (0, v0)]) S tys tys_ok 1 (by kernel_rfl) ?_
  clear S; intro a S
  refine wpList_nil ?_
  refine then_n ?_
  replace S := S.sub (l' := [(1, pB b_1)]) (by exact ⟨rfl, trivial⟩)
  refine wp_seq ?_
  refine wp_region_lit ?_
  refine w_go S rfl (op_mkfn (vs := []) (us := [pB b_1]) S rfl rfl rfl rfl rfl ?_)
  clear S; intro a S
  refine wl_pure (l' := [(2, .func (.func 38) #[] #[pB b_1]), (3, .func (.func 38) #[] #[pB b_1]), (1, pB b_1)]) S tys tys_ok 1 (by kernel_rfl) ?_
  clear S; intro a S
  refine wpList_nil ?_
  refine then_n ?_
  replace S := S.sub (l' := [(2, .func (.func 38) #[] #[pB b_1])]) (by exact ⟨rfl, trivial⟩)
  refine wp_ret ?_
  have Q_5 : Pr (.sl gt1) w_3 (Kx K w.heap.size []) (⟨b_1, 0, .none⟩ : Addr) x0 := Bx.pr B_2 W rfl 0 rfl
  replace W : Wd w w_3 [] := W.lessAt 0
  obtain rfl := Option.some.inj h
  exact b_ret1 S rfl rfl ⟨(⟨b_1, 0, .none⟩ : Addr), rfl, Q_5.out, W.below⟩
theorem cb33 : callB Try.prog 33 = true := by kernel_rfl
def p31_r1 (n : Nat) (x0 : Sl (Int × Int × Bool × Bool × Bool × Bool × Int)) (s_ : Unit) (x_ : (Int)) : Option (Nat × (Unit)) :=
  (idx x0.xs x_).bind fun y_31 => if (!y_31.2.2.2.2.1) then (some (1, ())) else some (0, ())
def p31 (n : Nat) (x0 : Sl (Int × Int × Bool × Bool × Bool × Bool × Int)) (x1 : Int) : Option ((Bool)) :=
  (p32 n x0 x1).bind fun t_11 =>
  (p37 n t_11.1 t_11.2 (Nat × (Unit)) (rnd (p31_r1 n x0)) (0, ())).bind fun (y_24 : Nat × (Unit)) =>
  if y_24.1 = 1 then (some false) else
  some true
set_option maxHeartbeats 4000000 in
set_option maxRecDepth 100000 in
/-- plugboard/powers.current -/
theorem c31 (K : Nat → Prop) (n : Nat) (w : World) (x0 : Sl (Int × Int × Bool × Bool × Bool × Bool × Int)) (v0 : Value) (R0 : RepV (.sl gt1) w K v0 x0) (x1 : Int) (G1 : InR .i64 x1) {r : (Bool)} (h : p31 n x0 x1 = some r) :
    Calls Try.prog 31 #[v0, .int .i64 x1] w (Ret1 .bool w (Kx K w.heap.size []) r) := by
  refine R.enter (args := [v0, .int .i64 x1]) Try.func31 rfl 16 rfl rfl (fun _ h_ => by obtain ⟨_, q_, _⟩ := h_; cases q_) fun a S => ?_
  have W := Wd.start w
  replace R0 := R0.arg
  unfold p31 at h
  replace S : St 16 a [(0, v0), (1, .int .i64 x1)] := S
  refine R.wp_seq ?_
  refine R.wp_region_lit ?_
  refine R.w_go S rfl (op_box S rfl rfl rfl rfl rfl R0 ?_)
  clear S; intro a w_3 b_1 hb_4 B_2 S
  replace R0 := R0.box hb_4
  replace W := W.box hb_4
  refine R.w_go S rfl (op_alloc (K := K) (n := w.heap.size) (L := [some b_1]) (t := .bool) (y := false) S rfl rfl rfl _ z4 (fun w K => rfl) ?_)
  clear S; intro a w_7 b_5 hb_8 B_6 S
  replace R0 := R0.box hb_8
  replace B_2 := B_2.box hb_8
  replace W := W.box hb_8
  refine R.wpList_nil ?_
  refine then_n ?_
  replace S := S.sub (l' := [(4, pB b_5), (2, pB b_1), (1, .int .i64 x1)]) (by exact ⟨rfl, rfl, rfl, trivial⟩)
  refine R.wp_seq ?_
  refine R.wp_seq ?_
  refine R.wp_region_lit ?_
  refine R.w_go S rfl (op_load (t := (.sl gt1)) (x := x0) S rfl ty24 rfl rfl rfl B_2.at_ ?_)
  clear S; intro a v_9 R_10 S
  refine R.wl_pure (l' := [(7, .int .i64 x1), (6, v_9), (4, pB b_5), (2, pB b_1), (1, .int .i64 x1)]) S tys tys_ok 1 (by kernel_rfl) ?_
  clear S; intro a S
  obtain ⟨t_11, et_11, h⟩ := bindS h
  refine R.w_go S rfl (op_call (vs := [v_9, .int .i64 x1]) S rfl cb32 rfl rfl rfl (c32 (Kx K w.heap.size [some b_5, some b_1]) n w_7 x0 _ R_10 x1 G1 et_11) ?_)
  rintro _ w_14 ⟨p_16, b_18, rfl, Q_17, B_19, hb_15⟩; refine ⟨_, rfl, ?_⟩
  replace Q_17 := Pr.backO Q_17 W
  replace B_19 := Bx.backO B_19 W
  clear S; intro a S
  replace R_10 := R_10.box hb_15
  replace B_2 := B_2.box hb_15
  replace B_6 := B_6.box hb_15
  replace W := W.box hb_15
  refine R.wpList_nil ?_
  refine then_n ?_
  replace S := S.sub (l' := [(8, .func (.func 37) #[] #[.pointer (some p_16), pB b_18]), (4, pB b_5), (2, pB b_1)]) (by exact ⟨rfl, rfl, rfl, trivial⟩)
  obtain ⟨y_24, ey_24, h⟩ := bindS h
  refine R.wp_cut_ (fun a_ w_ => ∃ D_20 l_21 : Nat, y_24.1 ≠ 1 ∧ (StD [markD D_20] 16 a_ [(4, pB b_5)] ∧ Wd w w_ [some b_18, some l_21, some D_20, some b_5, some b_1] ∧ Bx (.sl gt1) 24 w_ (Kx K w.heap.size [some b_18, some l_21, some D_20, some b_5, some b_1]) b_1 x0 ∧ Bx .bool 4 w_ (Kx K w.heap.size [some b_18, some l_21, some D_20, some b_5, some b_1]) b_5 false ∧ Ox (.deferred (some [])) w_ D_20)) ?_ ?_
  · refine R.wp_block ?_
    refine R.range S rfl cb37 ?_
    intro fn_ w_25 w_26 D_20 l_21 rec hrec hbD_20 hbl_21 oD_20 ol_21; have S0 := S
    replace Q_17 := Q_17.box hbD_20
    replace B_2 := B_2.box hbD_20
    replace B_6 := B_6.box hbD_20
    replace B_19 := B_19.box hbD_20
    replace W := W.box hbD_20
    replace Q_17 := Q_17.box hbl_21
    replace B_2 := B_2.box hbl_21
    replace B_6 := B_6.box hbl_21
    replace B_19 := B_19.box hbl_21
    replace oD_20 := oD_20.box hbl_21
    replace W := W.box hbl_21
    replace Q_17 : Pr (.sl gt1) w_26 (Kx K w.heap.size [some b_18, some l_21, some D_20, some b_5, some b_1]) p_16 t_11.1 := Q_17.mv 2 rfl
    replace B_2 : Bx (.sl gt1) 24 w_26 (Kx K w.heap.size [some b_18, some l_21, some D_20, some b_5, some b_1]) b_1 x0 := B_2.mv 2 rfl
    replace B_6 : Bx .bool 4 w_26 (Kx K w.heap.size [some b_18, some l_21, some D_20, some b_5, some b_1]) b_5 false := B_6.mv 2 rfl
    replace B_19 : Bx (.int .i64) 3 w_26 (Kx K w.heap.size [some b_18, some l_21, some D_20, some b_5, some b_1]) b_18 t_11.2 := B_19.mv 2 rfl
    replace W : Wd w w_26 [some b_18, some l_21, some D_20, some b_5, some b_1] := W.mv 2 rfl
    have hz_ : w.heap.size ≤ w_26.heap.size := W.below.size; have ltD_20 := oD_20.lt; have ltl_21 := ol_21.lt
    refine (c37 K n w w_26 [some l_21, some D_20, some b_5, some b_1] b_18 p_16 _ Q_17 _ B_19 (Nat × (Unit)) (rnd (p31_r1 n x0)) _ l_21 (fun (b_ : Nat × (Unit)) (LO_ : List (Option Nat)) (w_ : World) => ∃ (k_ : Nat) (s_ : Unit) , b_ = (k_, s_) ∧ k_ ≤ 1 ∧ LO_ = [some l_21, some D_20, some b_5, some b_1] ∧ Wd w w_ [some b_18, some l_21, some D_20, some b_5, some b_1] ∧ Bx (.sl gt1) 24 w_ (Kx K w.heap.size [some b_18, some l_21, some D_20, some b_5, some b_1]) b_1 x0 ∧ Bx .bool 4 w_ (Kx K w.heap.size [some b_18, some l_21, some D_20, some b_5, some b_1]) b_5 false ∧ Ox (.deferred (some [])) w_ D_20 ∧ Ox (rk rec [.ret] k_) w_ l_21) W ⟨?_, ⟨0, (), rfl, by decide, rfl, W, B_2, B_6, oD_20, ol_21⟩, Nat.le_refl _⟩ ?_ ey_24).mono ?_
    · rintro _ LO_ A_ B_ ⟨k_, s_, rfl, hk_, rfl, W, B_2, B_6, oD_20, ol_21⟩ hab_; exact ⟨k_, s_, rfl, hk_, rfl, W.ab hab_ (by simp) hz_, B_2.ab hab_ (by simp) (fun h_ => (W.bne (p := 4) (q := 0) (by decide) rfl rfl) (Option.some.inj (List.mem_singleton.1 h_))), B_6.ab hab_ (by simp) (fun h_ => (W.bne (p := 3) (q := 0) (by decide) rfl rfl) (Option.some.inj (List.mem_singleton.1 h_))), oD_20.ab hab_ ltD_20 (fun h_ => (W.bne (p := 2) (q := 0) (by decide) rfl rfl) (Option.some.inj (List.mem_singleton.1 h_))), ol_21.ab hab_ ltl_21 (fun h_ => (W.bne (p := 1) (q := 0) (by decide) rfl rfl) (Option.some.inj (List.mem_singleton.1 h_)))⟩
    · intro b_ LO_ A_ x_ WA_ G_27 r_ hf_ hJ_
      obtain ⟨s0_, r0_, e1_, hb_, rfl⟩ := rnd_some hf_
      obtain ⟨k_, s_, e2_, hk_, rfl, W, B_2, B_6, oD_20, ol_21⟩ := hJ_
      obtain ⟨q1_, q2_⟩ := Prod.mk.inj (e2_.symm.trans e1_); subst q1_; subst q2_; clear WA_ hf_
      replace ol_21 : Ox (rec .ready none) A_ l_21 := ol_21
      obtain ⟨q_, ob_18⟩ := W.obj (b := b_18) (by simp); have ob0_ := ob_18
      refine yieldAt_of (ps := [9]) (vs := [.int .i64 x_]) hrec S0 ol_21 rfl (by kernel_rfl) ?_; intro a S
      unfold p31_r1 at hb_; try dsimp only at hb_
      have RD := Rnd.start A_ [some b_18, some l_21, some D_20, some b_5, some b_1]
      replace S : St 16 a [(9, .int .i64 x_), (4, pB b_5), (2, pB b_1)] := S.sub (by exact ⟨rfl, rfl, rfl, trivial⟩)
      refine R.wp_region_lit ?_
      refine R.wl_pure (l' := [(5, .int .i64 x_), (9, .int .i64 x_), (4, pB b_5), (2, pB b_1)]) S tys tys_ok 1 (by kernel_rfl) ?_
      clear S; intro a S
      refine R.wpList_nil ?_
      refine then_n ?_
      refine R.begin hrec ol_21 ?_; intro w_28 hN_ ol_21
      replace B_2 := B_2.nc hN_
      replace B_6 := B_6.nc hN_
      replace oD_20 := oD_20.nc hN_ (W.bne (p := 2) (q := 1) (by decide) rfl rfl)
      replace ob_18 := ob_18.nc hN_ (W.bne (p := 0) (q := 1) (by decide) rfl rfl)
      replace RD := RD.nc hN_ (by simp)
      replace W := W.nc hN_ (by simp)
      refine R.wp_block ?_
      refine R.wp_seq ?_
      refine R.wp_region_lit ?_
      refine R.w_go S rfl (op_load (t := (.sl gt1)) (x := x0) S rfl ty24 rfl rfl rfl B_2.at_ ?_)
      clear S; intro a v_29 R_30 S
      refine R.wl_pureK (l' := [(11, .int .i64 x_), (10, v_29), (4, pB b_5)]) S tys tys_ok 1 [11, 10, 4] (by kernel_rfl) ?_
      clear S; intro a S
      obtain ⟨y_31, ey_31, hb_⟩ := bindS hb_
      refine R.w_go S rfl (op_indexAddr S rfl ty24 rfl rfl rfl R_30 rfl ey_31 ?_)
      clear S; intro a p_32 R_33 H_34 S
      refine R.wl_pureK (l' := [(13, .pointer (some (p_32.add (coff gf1 4)))), (4, pB b_5)]) S tys tys_ok 1 [13, 4] (by kernel_rfl) ?_
      clear S; intro a S
      refine R.w_go S rfl (op_load (t := .bool) (x := y_31.2.2.2.2.1) S rfl ty4 rfl rfl rfl (RepAt.add 4 (RepAt.st (t := gf1) R_33)) ?_)
      clear S; intro a v_35 R_36 S
      obtain rfl := RepV.bool R_36
      refine R.wl_pure (l' := [(15, .bool (!y_31.2.2.2.2.1)), (14, .bool y_31.2.2.2.2.1), (13, .pointer (some (p_32.add (coff gf1 4)))), (4, pB b_5)]) S tys tys_ok 1 (by kernel_rfl) ?_
      clear S; intro a S
      refine R.wpList_nil ?_
      refine then_n ?_
      replace S := S.sub (l' := [(15, .bool (!y_31.2.2.2.2.1)), (4, pB b_5)]) (by exact ⟨rfl, rfl, trivial⟩)
      refine R.wp_cond_split (S.eval (show ev _ _ = some (.bool (!y_31.2.2.2.2.1)) from rfl)) ?_ ?_
      · intro hc
        rw [if_pos hc] at hb_
        refine R.wp_seq ?_
        refine R.wp_region_lit ?_
        refine R.w_go S rfl (op_store (t' := .bool) S rfl rfl ty4 rfl rfl rfl B_6 (by simp) Ln.whole (RepV.mkBool : RepV .bool w_28 (Kx K w.heap.size [some b_18, some l_21, some D_20, some b_5, some b_1]) _ false) ?_)
        intro w_37 hw_38 B_
        replace B_2 := B_2.wrote hw_38 (by simp) (W.bne (p := 4) (q := 3) (by decide) rfl rfl)
        replace oD_20 := oD_20.wrote hw_38 (by simp) (W.bne (p := 2) (q := 3) (by decide) rfl rfl)
        replace ob_18 := ob_18.wrote hw_38 (by simp) (W.bne (p := 0) (q := 3) (by decide) rfl rfl)
        replace ol_21 := ol_21.wrote hw_38 (by simp) (W.bne (p := 1) (q := 3) (by decide) rfl rfl)
        replace RD := RD.wrote hw_38 (by simp)
        replace W := W.wrote hw_38 (by simp)
        replace B_6 : Bx .bool 4 w_37 (Kx K w.heap.size [some b_18, some l_21, some D_20, some b_5, some b_1]) b_5 false := B_; clear B_
        refine R.wpList_nil ?_
        refine then_n ?_
        replace S := S.sub (l' := [(4, pB b_5)]) (by exact ⟨rfl, trivial⟩)
        refine R.wp_ret ?_
        refine blk_r ?_
        obtain rfl := Option.some.inj hb_
        refine R.end_r hrec ol_21 ?_; intro w_39 hN_ ol_21
        replace B_2 := B_2.nc hN_
        replace B_6 := B_6.nc hN_
        replace oD_20 := oD_20.nc hN_ (W.bne (p := 2) (q := 1) (by decide) rfl rfl)
        replace ob_18 := ob_18.nc hN_ (W.bne (p := 0) (q := 1) (by decide) rfl rfl)
        replace RD := RD.nc hN_ (by simp)
        replace W := W.nc hN_ (by simp)
        exact ⟨_, rfl, ⟨1, _, rfl, by decide, rfl, W, B_2, B_6, oD_20, ol_21⟩, (RD.yst W).less1 ob0_ ob_18⟩
      · intro hc
        rw [if_neg (Bool.eq_false_iff.1 hc)] at hb_
        refine R.wp_skip ?_
        refine blk_n ?_
        obtain rfl := Option.some.inj hb_
        refine R.end_n hrec ol_21 ?_; intro w_40 hN_ ol_21
        replace B_2 := B_2.nc hN_
        replace B_6 := B_6.nc hN_
        replace oD_20 := oD_20.nc hN_ (W.bne (p := 2) (q := 1) (by decide) rfl rfl)
        replace ob_18 := ob_18.nc hN_ (W.bne (p := 0) (q := 1) (by decide) rfl rfl)
        replace RD := RD.nc hN_ (by simp)
        replace W := W.nc hN_ (by simp)
        exact ⟨_, rfl, ⟨0, _, rfl, by decide, rfl, W, B_2, B_6, oD_20, ol_21⟩, (RD.yst W).less1 ob0_ ob_18⟩
    · rintro _ w_41 ⟨hv_, LO_, hJ_⟩; refine ⟨hv_, ?_⟩; clear S W
      obtain ⟨k_, s_, e2_, hk_, rfl, W, B_2, B_6, oD_20, ol_21⟩ := hJ_; subst e2_; have S := S0.mark (D := D_20)
      rcases k_ with _ | _ | k_
      ·
        replace ol_21 : Ox (rec .ready none) w_41 l_21 := ol_21
        refine RP.done hrec ol_21 ?_; intro w_42 hN_
        replace B_2 := B_2.nc hN_
        replace B_6 := B_6.nc hN_
        replace oD_20 := oD_20.nc hN_ (W.bne (p := 2) (q := 1) (by decide) rfl rfl)
        replace W := W.nc hN_ (by simp)
        replace S : StD [markD D_20] 16 _ [(4, pB b_5), (2, pB b_1)] := S.sub (by exact ⟨rfl, rfl, trivial⟩)
        refine blk_n ?_
        refine then_n ?_
        exact ⟨D_20, l_21, by simp, ⟨S.sub (by exact ⟨rfl, trivial⟩), W, B_2, B_6, oD_20⟩⟩
      ·
        replace ol_21 : Ox (rec .done (some .ret)) w_41 l_21 := ol_21
        refine RP.jump hrec ol_21 ?_; intro w_43 hN_
        replace B_2 := B_2.nc hN_
        replace B_6 := B_6.nc hN_
        replace oD_20 := oD_20.nc hN_ (W.bne (p := 2) (q := 1) (by decide) rfl rfl)
        replace W := W.nc hN_ (by simp)
        replace S : StD [markD D_20] 16 _ [(4, pB b_5), (2, pB b_1)] := S.sub (by exact ⟨rfl, rfl, trivial⟩)
        rw [if_pos rfl] at h; try dsimp only at h
        refine R.wp_ret ?_
        refine blk_r ?_
        refine then_r ?_
        refine then_r ?_
        refine R.leave1 S oD_20 ?_ (by simp)
        clear S; intro a wL hN_ S
        replace B_2 := B_2.nc hN_
        replace B_6 := B_6.nc hN_
        replace W := W.nc hN_ (by simp)
        obtain ⟨v_44, hr_45, R_46⟩ := res_cell (P := Try.prog) (T := 4) (t := .bool) (x := false) S (s := 4) rfl ty4 B_6.at_
        obtain rfl := Option.some.inj h
        exact b_res1 S rfl hr_45 ⟨_, rfl, R_46.out, W.below⟩
      · exact absurd hk_ (by omega)
  clear S W; rintro a w_47 ⟨D_20, l_21, hc_, S, W, B_2, B_6, oD_20⟩
  rw [if_neg hc_] at h
  refine then_n ?_
  refine R.wp_seq ?_
  refine R.wp_region_lit ?_
  refine R.w_go S rfl (op_store (t' := .bool) S rfl rfl ty4 rfl rfl rfl B_6 (by simp) Ln.whole (RepV.mkBool : RepV .bool w_47 (Kx K w.heap.size [some b_18, some l_21, some D_20, some b_5, some b_1]) _ true) ?_)
  intro w_48 hw_49 B_
  replace B_2 := B_2.wrote hw_49 (by simp) (W.bne (p := 4) (q := 3) (by decide) rfl rfl)
  replace oD_20 := oD_20.wrote hw_49 (by simp) (W.bne (p := 2) (q := 3) (by decide) rfl rfl)
  replace W := W.wrote hw_49 (by simp)
  replace B_6 : Bx .bool 4 w_48 (Kx K w.heap.size [some b_18, some l_21, some D_20, some b_5, some b_1]) b_5 true := B_; clear B_
  refine R.wpList_nil ?_
  refine then_n ?_
  refine R.wp_ret ?_
  refine R.leave1 S oD_20 ?_ (by simp)
  clear S; intro a wL hN_ S
  replace B_2 := B_2.nc hN_
  replace B_6 := B_6.nc hN_
  replace W := W.nc hN_ (by simp)
  obtain ⟨v_50, hr_51, R_52⟩ := res_cell (P := Try.prog) (T := 4) (t := .bool) (x := true) S (s := 4) rfl ty4 B_6.at_
  obtain rfl := Option.some.inj h
  exact b_res1 S rfl hr_51 ⟨_, rfl, R_52.out, W.below⟩
theorem cb31 : callB Try.prog 31 = true := by kernel_rfl
def p28 (n : Nat) (x0 : Sl (Int × Int × Bool × Bool × Bool × Bool × Int)) (x1 : Int) : Option ((Int)) :=
  (idx x0.xs x1).bind fun y_1 =>
  (if (y_1.1 != (-1)) = true then (idx x0.xs y_1.1).bind fun y_8 => some (!y_8.2.2.2.1) else some false).bind fun q_7 =>
  if q_7 then (some 100) else some 500
set_option maxHeartbeats 4000000 in
set_option maxRecDepth 100000 in
/-- plugboard/powers.limit -/
theorem c28 (K : Nat → Prop) (n : Nat) (w : World) (x0 : Sl (Int × Int × Bool × Bool × Bool × Bool × Int)) (v0 : Value) (R0 : RepV (.sl gt1) w K v0 x0) (x1 : Int) (G1 : InR .i64 x1) {r : (Int)} (h : p28 n x0 x1 = some r) :
    Calls Try.prog 28 #[v0, .int .i64 x1] w (Ret1 (.int .i64) w (Kx K w.heap.size []) r) := by
  refine enter (args := [v0, .int .i64 x1]) Try.func28 rfl 21 rfl rfl fun a S => ?_
  have W := Wd.start w
  replace R0 := R0.arg
  unfold p28 at h
  replace S : St 21 a [(0, v0), (1, .int .i64 x1)] := S
  refine wp_seq ?_
  refine wp_region_lit ?_
  refine wl_pure (l' := [(4, .int .i64 0), (0, v0), (1, .int .i64 x1)]) S tys tys_ok 1 (by kernel_rfl) ?_
  clear S; intro a S
  refine wpList_nil ?_
  refine then_n ?_
  replace S := S.sub (l' := [(0, v0), (1, .int .i64 x1)]) (by exact ⟨rfl, rfl, trivial⟩)
  refine wp_seq ?_
  refine wp_seq ?_
  refine wp_region_lit ?_
  refine wl_pure (l' := [(7, .int .i64 x1), (6, v0), (0, v0), (1, .int .i64 x1)]) S tys tys_ok 2 (by kernel_rfl) ?_
  clear S; intro a S
  obtain ⟨y_1, ey_1, h⟩ := bindS h
  refine w_go S rfl (op_indexAddr S rfl ty24 rfl rfl rfl R0 rfl ey_1 ?_)
  clear S; intro a p_2 R_3 H_4 S
  refine wl_pureK (l' := [(9, .pointer (some (p_2.add (coff gf1 0)))), (0, v0)]) S tys tys_ok 1 [9, 0] (by kernel_rfl) ?_
  clear S; intro a S
  refine w_go S rfl (op_load (t := (.int .i64)) (x := y_1.1) S rfl ty3 rfl rfl rfl (RepAt.add 0 (RepAt.st (t := gf1) R_3)) ?_)
  clear S; intro a v_5 R_6 S
  obtain ⟨rfl, GR_6⟩ := RepV.int R_6
  refine wl_pure (l' := [(5, .int .i64 y_1.1), (10, .int .i64 y_1.1), (9, .pointer (some (p_2.add (coff gf1 0)))), (0, v0)]) S tys tys_ok 1 (by kernel_rfl) ?_
  clear S; intro a S
  refine wpList_nil ?_
  refine then_n ?_
  replace S := S.sub (l' := [(5, .int .i64 y_1.1), (0, v0)]) (by exact ⟨rfl, rfl, trivial⟩)
  refine wp_seq ?_
  refine wp_region_lit ?_
  refine wl_pure (l' := [(13, .bool (y_1.1 != (-1))), (12, .bool (y_1.1 != (-1))), (11, .int .i64 y_1.1), (5, .int .i64 y_1.1), (0, v0)]) S tys tys_ok 3 (by kernel_rfl) ?_
  clear S; intro a S
  obtain ⟨q_7, eq_7, h⟩ := bindS h
  refine seg 7 (fun a_ w_ => w = w_ ∧ St 21 a_ [(20, .bool q_7)]) ?_ ?_
  · by_cases hc : (y_1.1 != (-1)) = true
    · rw [if_pos hc] at eq_7; rw [hc] at S
      refine wl_pureK (l' := [(15, .int .i64 y_1.1), (14, v0), (13, .bool true)]) S tys tys_ok 2 [15, 14, 13] (by kernel_rfl) ?_
      clear S; intro a S
      obtain ⟨y_8, ey_8, eq_7⟩ := bindS eq_7
      refine w_go S rfl (op_indexAddr S rfl ty24 rfl rfl rfl R0 rfl ey_8 ?_)
      clear S; intro a p_9 R_10 H_11 S
      refine wl_pureK (l' := [(17, .pointer (some (p_9.add (coff gf1 3)))), (13, .bool true)]) S tys tys_ok 1 [17, 13] (by kernel_rfl) ?_
      clear S; intro a S
      refine w_go S rfl (op_load (t := .bool) (x := y_8.2.2.2.1) S rfl ty4 rfl rfl rfl (RepAt.add 3 (RepAt.st (t := gf1) R_10)) ?_)
      clear S; intro a v_12 R_13 S
      obtain rfl := RepV.bool R_13
      refine wl_pureK (l' := [(20, .bool (!y_8.2.2.2.1))]) S tys tys_ok 2 [20] (by kernel_rfl) ?_
      clear S; intro a S
      obtain rfl := Option.some.inj eq_7
      exact ⟨rfl, S.sub (by exact ⟨rfl, trivial⟩)⟩
    · rw [if_neg hc] at eq_7; rw [show (y_1.1 != (-1)) = false from Bool.eq_false_iff.2 hc] at S
      refine wl_pureK (l' := [(20, .bool false)]) S tys tys_ok 7 [20] (by kernel_rfl) ?_
      clear S; intro a S
      obtain rfl := Option.some.inj eq_7
      exact ⟨rfl, S.sub (by exact ⟨rfl, trivial⟩)⟩
  clear S eq_7; rintro a _ ⟨rfl, S⟩
  refine wpList_nil ?_
  refine then_n ?_
  refine wp_cond_split (S.eval (show ev _ _ = some (.bool q_7) from rfl)) ?_ ?_
  · intro hc
    rw [if_pos hc] at h
    refine wp_seq ?_
    refine wp_region_lit ?_
    refine wl_pure (l' := [(4, .int .i64 100), (20, .bool q_7)]) S tys tys_ok 1 (by kernel_rfl) ?_
    clear S; intro a S
    refine wpList_nil ?_
    refine then_n ?_
    replace S := S.sub (l' := [(4, .int .i64 100)]) (by exact ⟨rfl, trivial⟩)
    refine wp_ret ?_
    refine then_r ?_
    obtain rfl := Option.some.inj h
    exact b_ret1 S rfl rfl ⟨_, rfl, (RepV.mkInt (by decide)), W.below⟩
  · intro hc
    rw [if_neg (Bool.eq_false_iff.1 hc)] at h
    refine wp_skip ?_
    refine then_n ?_
    replace S := S.sub (l' := []) trivial
    refine wp_seq ?_
    refine wp_region_lit ?_
    refine wl_pure (l' := [(4, .int .i64 500)]) S tys tys_ok 1 (by kernel_rfl) ?_
    clear S; intro a S
    refine wpList_nil ?_
    refine then_n ?_
    refine wp_ret ?_
    obtain rfl := Option.some.inj h
    exact b_ret1 S rfl rfl ⟨_, rfl, (RepV.mkInt (by decide)), W.below⟩
theorem cb28 : callB Try.prog 28 = true := by kernel_rfl
def p27_r1 (n : Nat) (x0 : Sl (Int × Int × Bool × Bool × Bool × Bool × Int)) (x1 : Bool) (s_ : (List (Int)) × (List (Bool))) (x_ : (Int) × (Int × Int × Bool × Bool × Bool × Bool × Int)) : Option (Nat × ((List (Int)) × (List (Bool)))) :=
  (p31 n x0 x_.1).bind fun t_132 => if (!t_132) then (some (0, (s_.1, s_.2))) else (idx s_.1 x_.1).bind fun y_140 => (idx x0.xs x_.1).bind fun y_148 => (p12 n y_148).bind fun t_154 => (ckI .i64 (y_140 + t_154)).bind fun x_223 => (idx s_.1 x_.1).bind fun y_224 => (idx (s_.1.set x_.1.toNat x_223) x_.1).bind fun y_236 => (p28 n x0 x_.1).bind fun t_244 => (idx s_.2 x_.1).bind fun y_306 => (idx (s_.2.set x_.1.toNat (decide (y_236 > t_244))) x_.1).bind fun y_316 => (if y_316 = true then some x1 else some false).bind fun q_322 => (if q_322 then ((idx (s_.1.set x_.1.toNat x_223) x_.1).bind fun y_330 => some ((s_.1.set x_.1.toNat x_223).set x_.1.toNat 0)) else some (s_.1.set x_.1.toNat x_223)).bind fun (j_325 : (List (Int))) => (idx x0.xs x_.1).bind fun y_341 => (if (y_341.1 != (-1)) = true then (idx x0.xs y_341.1).bind fun y_350 => some (!y_350.2.2.2.1) else some false).bind fun q_347 => (if q_347 then ((idx j_325 y_341.1).bind fun y_361 => (idx j_325 x_.1).bind fun y_369 => (ckI .i64 (y_361 + y_369)).bind fun x_431 => (idx j_325 y_341.1).bind fun y_432 => some (j_325.set y_341.1.toNat x_431)) else some j_325).bind fun (j_356 : (List (Int))) => some (0, (j_356, (s_.2.set x_.1.toNat (decide (y_236 > t_244)))))
def p27 (n : Nat) (x0 : Sl (Int × Int × Bool × Bool × Bool × Bool × Int)) (x1 : Bool) : Option ((Sl (Int)) × (Sl (Bool))) :=
  (mkI (lenI x0) (lenI x0)).bind fun m_20 =>
  (mkI (lenI x0) (lenI x0)).bind fun m_28 =>
  (p33 n x0).bind fun t_91 =>
  (p38 n t_91 (Nat × ((List (Int)) × (List (Bool)))) (rnd (p27_r1 n x0 x1)) (0, ((List.replicate m_20.1 (0 : Int)), (List.replicate m_28.1 (false : Bool))))).bind fun (y_115 : Nat × ((List (Int)) × (List (Bool)))) =>
  some ((⟨y_115.2.1, some m_20.2⟩ : Sl (Int)), (⟨y_115.2.2, some m_28.2⟩ : Sl (Bool)))
set_option maxHeartbeats 4000000 in
set_option maxRecDepth 100000 in
/-- plugboard/powers.loads -/
theorem c27 (K : Nat → Prop) (n : Nat) (w : World) (x0 : Sl (Int × Int × Bool × Bool × Bool × Bool × Int)) (v0 : Value) (R0 : RepV (.sl gt1) w K v0 x0) (x1 : Bool) {r : (Sl (Int)) × (Sl (Bool))} (h : p27 n x0 x1 = some r) :
    Calls Try.prog 27 #[v0, .bool x1] w (fun e_ w_ => ∃ v0_ v1_ : Value, e_ = .returned (.tuple #[v0_, v1_]) ∧ Ow (.int .i64) 3 w_ w.heap.size (Kx K w.heap.size [v0_.ownBlock, v1_.ownBlock]) v0_ r.1.xs r.1.cap ∧ Ow .bool 4 w_ w.heap.size (Kx K w.heap.size [v0_.ownBlock, v1_.ownBlock]) v1_ r.2.xs r.2.cap ∧ Wd w w_ [v0_.ownBlock, v1_.ownBlock]) := by
  refine R.enter (args := [v0, .bool x1]) Try.func27 rfl 81 rfl rfl (fun _ h_ => by obtain ⟨_, _, q_, _⟩ := h_; cases q_) fun a S => ?_
  have W := Wd.start w
  replace R0 := R0.arg
  unfold p27 at h
  replace S : St 81 a [(0, v0), (1, .bool x1)] := S
  refine R.wp_seq ?_
  refine R.wp_region_lit ?_
  refine R.w_go S rfl (op_box S rfl rfl rfl rfl rfl R0 ?_)
  clear S; intro a w_3 b_1 hb_4 B_2 S
  replace R0 := R0.box hb_4
  replace W := W.box hb_4
  refine R.w_go S rfl (op_box S rfl rfl rfl rfl rfl (RepV.mkBool : RepV .bool w_3 (Kx K w.heap.size [some b_1]) _ _) ?_)
  clear S; intro a w_7 b_5 hb_8 B_6 S
  replace R0 := R0.box hb_8
  replace B_2 := B_2.box hb_8
  replace W := W.box hb_8
  refine R.w_go S rfl (op_alloc (K := K) (n := w.heap.size) (L := [some b_5, some b_1]) (t := .raw) (y := (.slice .none 0 0)) S rfl rfl rfl _ z27 (fun w K => ⟨rfl, _, _, _, rfl⟩) ?_)
  clear S; intro a w_11 b_9 hb_12 B_10 S
  replace R0 := R0.box hb_12
  replace B_2 := B_2.box hb_12
  replace B_6 := B_6.box hb_12
  replace W := W.box hb_12
  refine R.w_go S rfl (op_alloc (K := K) (n := w.heap.size) (L := [some b_9, some b_5, some b_1]) (t := .raw) (y := (.slice .none 0 0)) S rfl rfl rfl _ z53 (fun w K => ⟨rfl, _, _, _, rfl⟩) ?_)
  clear S; intro a w_15 b_13 hb_16 B_14 S
  replace R0 := R0.box hb_16
  replace B_2 := B_2.box hb_16
  replace B_6 := B_6.box hb_16
  replace B_10 := B_10.box hb_16
  replace W := W.box hb_16
  refine R.wpList_nil ?_
  refine then_n ?_
  replace S := S.sub (l' := [(5, pB b_13), (4, pB b_9), (3, pB b_5), (2, pB b_1)]) (by exact ⟨rfl, rfl, rfl, rfl, trivial⟩)
  refine R.wp_seq ?_
  refine R.drawn (by kernel_rfl) (by kernel_rfl) ?_
  obtain ⟨m_20, em_20, h⟩ := bindS h
  obtain ⟨m_28, em_28, h⟩ := bindS h
  have hbL_ : some b_9 ∈ [some b_13, some b_9, some b_5, some b_1] := by simp
  skip
  have ne_b_1 : b_1 ≠ b_9 := W.bne (p := 3) (q := 1) (by decide) rfl rfl
  have ne_b_5 : b_5 ≠ b_9 := W.bne (p := 2) (q := 1) (by decide) rfl rfl
  have ne_b_13 : b_13 ≠ b_9 := W.bne (p := 0) (q := 1) (by decide) rfl rfl
  have hlt_ : b_9 < w_15.heap.size := (W.own _ hbL_).2
  refine wr_region_sto 7 [7, 7, 7, 7, 7, 7, 7] w [2, 5] [some b_13, some b_9, some b_5, some b_1] 6 b_9 (PhR b_9 .raw 27 K w.heap.size [2, 5] [some b_13, some b_9, some b_5, some b_1] 2 (fun u_ : Nat => (.slice (some ⟨u_, 0, .none⟩) m_20.1 m_20.2))) (PhR.stab hbL_) [isRepG (.sl gt1) K w.heap.size [2, 5] [some b_13, some b_9, some b_5, some b_1] x0, isIG .i64 (lenI x0), isMkS b_9 (.int .i64) 3 w.heap.size K w.heap.size [2, 5] [some b_13, some b_9, some b_5, some b_1] 2 (List.replicate m_20.1 (0 : Int)) (some m_20.2) m_20.1 m_20.2, isRepG (.sl gt1) K w.heap.size [2, 5] [some b_13, some b_9, some b_5, some b_1] x0, isIG .i64 (lenI x0), isMkS b_9 .bool 4 w.heap.size K w.heap.size [2, 5] [some b_13, some b_9, some b_5, some b_1] 5 (List.replicate m_28.1 (false : Bool)) (some m_28.2) m_28.1 m_28.2, isStG 6] [[], [(0, 8)], [(1, 9)], [], [(3, 11)], [(4, 12)], [(2, 10)]] (by kernel_rfl) (by rw [S.size]; kernel_rfl) (by kernel_rfl) (by kernel_rfl) (by kernel_rfl) rfl ⟨(stabGs_rep hbL_), stabGs_I, (stabGs_mk hbL_), (stabGs_rep hbL_), stabGs_I, (stabGs_mk hbL_), stabGs_st, trivial⟩ ?_ ?_
  ·
    refine RunAllG.cons (isRepG (.sl gt1) K w.heap.size [2, 5] [some b_13, some b_9, some b_5, some b_1] x0) [] rfl rfl ?_ ?_
    · intro M_ W_ hW hU_ hV_
      have S1 := S
      refine fillG_nil S1 ?_; clear S1; intro a_ S1
      replace B_2 : Bx (.sl gt1) 24 W_ (Kx K w.heap.size (lm [2, 5] [some b_13, some b_9, some b_5, some b_1] M_)) b_1 x0 := Bx.gs (g := (fun _ => none, w_15)) (Bx.lm0 B_2) hW hbL_ (fun e_ => absurd e_ ne_b_1)
      have S0 := S.defers; replace S := S1; clear S1
      refine w_go S rfl (op_load (t := (.sl gt1)) (x := x0) S rfl ty24 rfl rfl rfl B_2.at_ ?_)
      clear S; intro a v_33 R_34 S
      refine wpList_nil ?_
      exact RPostS.mk_ S rfl S0 R_34 (Below.refl _ _)
    refine RunAllG.cons (isIG .i64 (lenI x0)) [(isRepG (.sl gt1) K w.heap.size [2, 5] [some b_13, some b_9, some b_5, some b_1] x0, 8)] rfl rfl ?_ ?_
    · intro M_ W_ hW hU_ hV_
      have S1 := S
      intro v_37 hF_36; replace hF_36 : RepV (.sl gt1) W_ (Kx K w.heap.size (lm [2, 5] [some b_13, some b_9, some b_5, some b_1] M_)) v_37 x0 := hF_36
      replace S1 := S1.put (by decide : 8 < 81) (v_37)
      refine fillG_nil S1 ?_; clear S1; intro a_ S1
      replace W : Wd w W_ (lm [2, 5] [some b_13, some b_9, some b_5, some b_1] M_) := Gs.wd' hW (Wd.lm0 _ W)
      have S0 := S.defers; replace S := S1; clear S1
      refine w_go S rfl (op_len (K := _) S rfl ty24 rfl rfl rfl hF_36 ?_)
      clear S; intro a G_38 S
      refine wpList_nil ?_
      exact RPostS.mk_ S rfl S0 ⟨rfl, G_38⟩ (Below.refl _ _)
    refine RunAllG.cons (isMkS b_9 (.int .i64) 3 w.heap.size K w.heap.size [2, 5] [some b_13, some b_9, some b_5, some b_1] 2 (List.replicate m_20.1 (0 : Int)) (some m_20.2) m_20.1 m_20.2) [(isIG .i64 (lenI x0), 9)] rfl rfl ?_ ?_
    · intro M_ W_ hW hU_ hV_
      have S1 := S
      rintro _ ⟨rfl, hF_40⟩
      replace S1 := S1.put (by decide : 9 < 81) (.int .i64 (lenI x0))
      refine fillG_nil S1 ?_; clear S1; intro a_ S1
      replace W : Wd w W_ (lm [2, 5] [some b_13, some b_9, some b_5, some b_1] M_) := Gs.wd' hW (Wd.lm0 _ W)
      have S0 := S.defers; replace S := S1; clear S1
      refine w_go S rfl (op_make (K := K) (e := (.int .i64)) (z0 := 0) S W _ rfl ty27 un27 by27 z3 (fun w K => ⟨rfl, by decide⟩) rfl rfl rfl rfl em_20 ?_)
      clear S; intro a w_43 b_42 hb_44 O_45 S
      replace O_45 : Ow (.int .i64) 3 w_43 w.heap.size (Kx K w.heap.size (some b_42 :: (lm [2, 5] [some b_13, some b_9, some b_5, some b_1] M_))) (.slice (some ⟨b_42, 0, .none⟩) m_20.1 m_20.2) (List.replicate m_20.1 (0 : Int)) (some m_20.2) := O_45
      refine wpList_nil ?_
      have hz_ : w_15.heap.size ≤ W_.heap.size := hW.size; have hge_ := hb_44.ge
      exact RPostS.lay S rfl S0 (some b_42) (NewB.newO hb_44) hU_ (by decide) (by decide) (by decide) ⟨b_42, rfl, gupd_at, (by omega), Ow.laid O_45 (by decide) (by decide)⟩
    refine RunAllG.cons (isRepG (.sl gt1) K w.heap.size [2, 5] [some b_13, some b_9, some b_5, some b_1] x0) [] rfl rfl ?_ ?_
    · intro M_ W_ hW hU_ hV_
      have S1 := S
      refine fillG_nil S1 ?_; clear S1; intro a_ S1
      replace B_2 : Bx (.sl gt1) 24 W_ (Kx K w.heap.size (lm [2, 5] [some b_13, some b_9, some b_5, some b_1] M_)) b_1 x0 := Bx.gs (g := (fun _ => none, w_15)) (Bx.lm0 B_2) hW hbL_ (fun e_ => absurd e_ ne_b_1)
      have S0 := S.defers; replace S := S1; clear S1
      refine w_go S rfl (op_load (t := (.sl gt1)) (x := x0) S rfl ty24 rfl rfl rfl B_2.at_ ?_)
      clear S; intro a v_46 R_47 S
      refine wpList_nil ?_
      exact RPostS.mk_ S rfl S0 R_47 (Below.refl _ _)
    refine RunAllG.cons (isIG .i64 (lenI x0)) [(isRepG (.sl gt1) K w.heap.size [2, 5] [some b_13, some b_9, some b_5, some b_1] x0, 11)] rfl rfl ?_ ?_
    · intro M_ W_ hW hU_ hV_
      have S1 := S
      intro v_50 hF_49; replace hF_49 : RepV (.sl gt1) W_ (Kx K w.heap.size (lm [2, 5] [some b_13, some b_9, some b_5, some b_1] M_)) v_50 x0 := hF_49
      replace S1 := S1.put (by decide : 11 < 81) (v_50)
      refine fillG_nil S1 ?_; clear S1; intro a_ S1
      replace W : Wd w W_ (lm [2, 5] [some b_13, some b_9, some b_5, some b_1] M_) := Gs.wd' hW (Wd.lm0 _ W)
      have S0 := S.defers; replace S := S1; clear S1
      refine w_go S rfl (op_len (K := _) S rfl ty24 rfl rfl rfl hF_49 ?_)
      clear S; intro a G_51 S
      refine wpList_nil ?_
      exact RPostS.mk_ S rfl S0 ⟨rfl, G_51⟩ (Below.refl _ _)
    refine RunAllG.cons (isMkS b_9 .bool 4 w.heap.size K w.heap.size [2, 5] [some b_13, some b_9, some b_5, some b_1] 5 (List.replicate m_28.1 (false : Bool)) (some m_28.2) m_28.1 m_28.2) [(isIG .i64 (lenI x0), 12)] rfl rfl ?_ ?_
    · intro M_ W_ hW hU_ hV_
      have S1 := S
      rintro _ ⟨rfl, hF_53⟩
      replace S1 := S1.put (by decide : 12 < 81) (.int .i64 (lenI x0))
      refine fillG_nil S1 ?_; clear S1; intro a_ S1
      replace W : Wd w W_ (lm [2, 5] [some b_13, some b_9, some b_5, some b_1] M_) := Gs.wd' hW (Wd.lm0 _ W)
      have S0 := S.defers; replace S := S1; clear S1
      refine w_go S rfl (op_make (K := K) (e := .bool) (z0 := false) S W _ rfl ty53 un53 by53 z4 (fun w K => rfl) rfl rfl rfl rfl em_28 ?_)
      clear S; intro a w_56 b_55 hb_57 O_58 S
      replace O_58 : Ow .bool 4 w_56 w.heap.size (Kx K w.heap.size (some b_55 :: (lm [2, 5] [some b_13, some b_9, some b_5, some b_1] M_))) (.slice (some ⟨b_55, 0, .none⟩) m_28.1 m_28.2) (List.replicate m_28.1 (false : Bool)) (some m_28.2) := O_58
      refine wpList_nil ?_
      have hz_ : w_15.heap.size ≤ W_.heap.size := hW.size; have hge_ := hb_57.ge
      exact RPostS.lay S rfl S0 (some b_55) (NewB.newO hb_57) hU_ (by decide) (by decide) (by decide) ⟨b_55, rfl, gupd_at, (by omega), Ow.laid O_58 (by decide) (by decide)⟩
    refine RunAllG.cons (isStG 6) [(isMkS b_9 (.int .i64) 3 w.heap.size K w.heap.size [2, 5] [some b_13, some b_9, some b_5, some b_1] 2 (List.replicate m_20.1 (0 : Int)) (some m_20.2) m_20.1 m_20.2, 10)] rfl rfl ?_ ?_
    · intro M_ W_ hW hU_ hV_
      have S1 := S
      rintro _ ⟨b_61, rfl, hF_59, hn_62, O_60⟩; replace O_60 : Ow (.int .i64) 3 W_ w.heap.size (Kx K w.heap.size (lm [2, 5] [some b_13, some b_9, some b_5, some b_1] M_)) (.slice (some ⟨b_61, 0, .none⟩) m_20.1 m_20.2) (List.replicate m_20.1 (0 : Int)) (some m_20.2) := O_60; replace hF_59 : M_ 2 = some (some b_61) := hF_59
      replace S1 := S1.put (by decide : 10 < 81) ((.slice (some ⟨b_61, 0, .none⟩) m_20.1 m_20.2))
      refine fillG_nil S1 ?_; clear S1; intro a_ S1
      replace B_10 : Bx .raw 27 W_ (Kx K w.heap.size (lm [2, 5] [some b_13, some b_9, some b_5, some b_1] M_)) b_9 (.slice .none 0 0) := Bx.gs (g := (fun _ => none, w_15)) (Bx.lm0 B_10) hW hbL_ (fun _ => .inr hU_)
      have S0 := S.defers; replace S := S1; clear S1
      refine w_go S rfl (op_store (t' := .raw) S rfl rfl tyr27 rfl rfl rfl B_10 (lm_right hbL_) Ln.whole O_60.raw ?_)
      intro w_63 hw_64 B_
      replace B_10 : Bx .raw 27 w_63 (Kx K w.heap.size (lm [2, 5] [some b_13, some b_9, some b_5, some b_1] M_)) b_9 (.slice (some ⟨b_61, 0, .none⟩) m_20.1 m_20.2) := B_; clear B_
      refine wpList_nil ?_
      exact RPostS.sto S S0 hw_64 hU_ (by decide) (lm_right hbL_) ⟨b_61, by simpa [gupd] using hF_59, (show Bx .raw 27 w_63 (Kx K w.heap.size (lm [2, 5] [some b_13, some b_9, some b_5, some b_1] (gupd M_ 6 none))) b_9 (.slice (some ⟨b_61, 0, .none⟩) m_20.1 m_20.2) by rw [lm_oth (by decide)]; exact B_10)⟩
    exact trivial
  intro M_ w_65 hb_66
  refine EndEG.some_ rfl ?_
  intro v_69 hF_68; replace hF_68 : RepV (.sl gt1) w_65 (Kx K w.heap.size (lm [2, 5] [some b_13, some b_9, some b_5, some b_1] M_)) v_69 x0 := hF_68
  replace S := S.put (by decide : 8 < 81) (v_69)
  refine EndEG.some_ rfl ?_
  rintro _ ⟨rfl, hF_71⟩
  replace S := S.put (by decide : 9 < 81) (.int .i64 (lenI x0))
  refine EndEG.some_ rfl ?_
  rintro _ ⟨b_75, rfl, hF_73, hn_76, O_74⟩; replace O_74 : Ow (.int .i64) 3 w_65 w.heap.size (Kx K w.heap.size (lm [2, 5] [some b_13, some b_9, some b_5, some b_1] M_)) (.slice (some ⟨b_75, 0, .none⟩) m_20.1 m_20.2) (List.replicate m_20.1 (0 : Int)) (some m_20.2) := O_74; replace hF_73 : M_ 2 = some (some b_75) := hF_73
  replace S := S.put (by decide : 10 < 81) ((.slice (some ⟨b_75, 0, .none⟩) m_20.1 m_20.2))
  refine EndEG.some_ rfl ?_
  intro v_79 hF_78; replace hF_78 : RepV (.sl gt1) w_65 (Kx K w.heap.size (lm [2, 5] [some b_13, some b_9, some b_5, some b_1] M_)) v_79 x0 := hF_78
  replace S := S.put (by decide : 11 < 81) (v_79)
  refine EndEG.some_ rfl ?_
  rintro _ ⟨rfl, hF_81⟩
  replace S := S.put (by decide : 12 < 81) (.int .i64 (lenI x0))
  refine EndEG.some_ rfl ?_
  rintro _ ⟨b_85, rfl, hF_83, hn_86, O_84⟩; replace O_84 : Ow .bool 4 w_65 w.heap.size (Kx K w.heap.size (lm [2, 5] [some b_13, some b_9, some b_5, some b_1] M_)) (.slice (some ⟨b_85, 0, .none⟩) m_28.1 m_28.2) (List.replicate m_28.1 (false : Bool)) (some m_28.2) := O_84; replace hF_83 : M_ 5 = some (some b_85) := hF_83
  replace S := S.put (by decide : 13 < 81) ((.slice (some ⟨b_85, 0, .none⟩) m_28.1 m_28.2))
  refine EndEG.none_ rfl ?_; intro hst_
  refine endEG_nil S ?_; clear S; intro a S
  replace hst_ : M_ 6 = some none := hst_
  have hF_ := Gs.sto hb_66 rfl (by show M_ 6 ≠ none; rw [hst_]; simp)
  replace B_2 : Bx (.sl gt1) 24 w_65 (Kx K w.heap.size (lm [2, 5] [some b_13, some b_9, some b_5, some b_1] M_)) b_1 x0 := Bx.gs (g := (fun _ => none, w_15)) (Bx.lm0 B_2) hb_66 hbL_ (fun e_ => absurd e_ ne_b_1)
  replace B_6 : Bx .bool 4 w_65 (Kx K w.heap.size (lm [2, 5] [some b_13, some b_9, some b_5, some b_1] M_)) b_5 x1 := Bx.gs (g := (fun _ => none, w_15)) (Bx.lm0 B_6) hb_66 hbL_ (fun e_ => absurd e_ ne_b_5)
  obtain ⟨b2_, q1_, q2_⟩ := hF_; obtain rfl : b_75 = b2_ := (Option.some.inj (Option.some.inj (Eq.trans (Eq.symm q1_) hF_73))).symm; replace B_10 : Bx .raw 27 w_65 (Kx K w.heap.size (lm [2, 5] [some b_13, some b_9, some b_5, some b_1] M_)) b_9 (.slice (some ⟨b_75, 0, .none⟩) m_20.1 m_20.2) := q2_
  replace B_14 : Bx .raw 53 w_65 (Kx K w.heap.size (lm [2, 5] [some b_13, some b_9, some b_5, some b_1] M_)) b_13 (.slice .none 0 0) := Bx.gs (g := (fun _ => none, w_15)) (Bx.lm0 B_14) hb_66 hbL_ (fun e_ => absurd e_ ne_b_13)
  replace W : Wd w w_65 (lm [2, 5] [some b_13, some b_9, some b_5, some b_1] M_) := Gs.wd' hb_66 (Wd.lm0 _ W)
  have eL_ : lm [2, 5] [some b_13, some b_9, some b_5, some b_1] M_ = [some b_75, some b_85, some b_13, some b_9, some b_5, some b_1] := by simp [lm, hF_73, hF_83]
  rw [eL_] at W
  rw [eL_] at hF_68
  rw [eL_] at hF_78
  rw [eL_] at B_2
  rw [eL_] at B_6
  rw [eL_] at B_10
  rw [eL_] at B_14
  rw [eL_] at O_74
  rw [eL_] at O_84
  clear eL_
  replace S := S.sub (l' := [(13, (.slice (some ⟨b_85, 0, .none⟩) m_28.1 m_28.2)), (12, .int .i64 (lenI x0)), (11, v_79), (10, (.slice (some ⟨b_75, 0, .none⟩) m_20.1 m_20.2)), (9, .int .i64 (lenI x0)), (8, v_69), (5, pB b_13), (4, pB b_9), (3, pB b_5), (2, pB b_1)]) (by exact ⟨rfl, rfl, rfl, rfl, rfl, rfl, rfl, rfl, rfl, rfl, trivial⟩)
  refine w_go S rfl (op_store (t' := .raw) S rfl rfl tyr53 rfl rfl rfl B_14 (by simp) Ln.whole O_84.raw ?_)
  intro w_87 hw_88 B_
  replace hF_68 := hF_68.wrote hw_88 (by simp)
  replace hF_78 := hF_78.wrote hw_88 (by simp)
  replace B_2 := B_2.wrote hw_88 (by simp) (W.bne (p := 5) (q := 2) (by decide) rfl rfl)
  replace B_6 := B_6.wrote hw_88 (by simp) (W.bne (p := 4) (q := 2) (by decide) rfl rfl)
  replace B_10 := B_10.wrote hw_88 (by simp) (W.bne (p := 3) (q := 2) (by decide) rfl rfl)
  replace O_74 := O_74.wrote hw_88 (by simp) (W.one (p := 0) (q := 2) (by decide) rfl rfl)
  replace O_84 := O_84.wrote hw_88 (by simp) (W.one (p := 1) (q := 2) (by decide) rfl rfl)
  replace W := W.wrote hw_88 (by simp)
  replace B_14 : Bx .raw 53 w_87 (Kx K w.heap.size [some b_75, some b_85, some b_13, some b_9, some b_5, some b_1]) b_13 (.slice (some ⟨b_85, 0, .none⟩) m_28.1 m_28.2) := B_; clear B_
  refine wpList_nil ?_
  refine then_n ?_
  replace S := S.sub (l' := [(5, pB b_13), (4, pB b_9), (3, pB b_5), (2, pB b_1)]) (by exact ⟨rfl, rfl, rfl, rfl, trivial⟩)
  refine R.wp_seq ?_
  refine R.wp_seq ?_
  refine R.wp_region_lit ?_
  refine R.w_go S rfl (op_load (t := (.sl gt1)) (x := x0) S rfl ty24 rfl rfl rfl B_2.at_ ?_)
  clear S; intro a v_89 R_90 S
  obtain ⟨t_91, et_91, h⟩ := bindS h
  refine R.w_go S rfl (op_call (vs := [v_89]) S rfl cb33 rfl rfl rfl (c33 (Kx K w.heap.size [some b_75, some b_85, some b_13, some b_9, some b_5, some b_1]) n w_87 x0 _ R_90 et_91) ?_)
  rintro _ w_94 ⟨p_96, rfl, Q_97, hb_95⟩; refine ⟨_, rfl, ?_⟩
  replace Q_97 := Pr.back Q_97 W
  clear S; intro a S
  replace R_90 := R_90.step hb_95
  replace B_2 := B_2.step hb_95
  replace B_6 := B_6.step hb_95
  replace B_10 := B_10.step hb_95
  replace B_14 := B_14.step hb_95
  replace O_74 := O_74.step hb_95
  replace O_84 := O_84.step hb_95
  replace W := W.step hb_95
  refine R.wpList_nil ?_
  refine then_n ?_
  replace S := S.sub (l' := [(15, .func (.func 38) #[] #[.pointer (some p_96)]), (5, pB b_13), (4, pB b_9), (3, pB b_5), (2, pB b_1)]) (by exact ⟨rfl, rfl, rfl, rfl, rfl, trivial⟩)
  obtain ⟨y_115, ey_115, h⟩ := bindS h
  refine R.wp_cut_ (fun a_ w_ => ∃ D_98 l_99 : Nat, (∃ (v_116 : Value) (v_118 : Value), StD [markD D_98] 81 a_ [(5, pB b_13), (4, pB b_9)] ∧ Wd w w_ [some l_99, some D_98, v_116.ownBlock, v_118.ownBlock, some b_13, some b_9, some b_5, some b_1] ∧ Bx (.sl gt1) 24 w_ (Kx K w.heap.size [some l_99, some D_98, v_116.ownBlock, v_118.ownBlock, some b_13, some b_9, some b_5, some b_1]) b_1 x0 ∧ Bx .bool 4 w_ (Kx K w.heap.size [some l_99, some D_98, v_116.ownBlock, v_118.ownBlock, some b_13, some b_9, some b_5, some b_1]) b_5 x1 ∧ Bx .raw 27 w_ (Kx K w.heap.size [some l_99, some D_98, v_116.ownBlock, v_118.ownBlock, some b_13, some b_9, some b_5, some b_1]) b_9 v_116 ∧ Bx .raw 53 w_ (Kx K w.heap.size [some l_99, some D_98, v_116.ownBlock, v_118.ownBlock, some b_13, some b_9, some b_5, some b_1]) b_13 v_118 ∧ Ox (.deferred (some [])) w_ D_98 ∧ Ow (.int .i64) 3 w_ w.heap.size (Kx K w.heap.size [some l_99, some D_98, v_116.ownBlock, v_118.ownBlock, some b_13, some b_9, some b_5, some b_1]) v_116 y_115.2.1 (some m_20.2) ∧ Ow .bool 4 w_ w.heap.size (Kx K w.heap.size [some l_99, some D_98, v_116.ownBlock, v_118.ownBlock, some b_13, some b_9, some b_5, some b_1]) v_118 y_115.2.2 (some m_28.2))) ?_ ?_
  · refine R.wp_block ?_
    refine R.range S rfl cb38 ?_
    intro fn_ w_120 w_121 D_98 l_99 rec hrec hbD_98 hbl_99 oD_98 ol_99; have S0 := S
    replace Q_97 := Q_97.box hbD_98
    replace B_2 := B_2.box hbD_98
    replace B_6 := B_6.box hbD_98
    replace B_10 := B_10.box hbD_98
    replace B_14 := B_14.box hbD_98
    replace O_74 := O_74.box hbD_98
    replace O_84 := O_84.box hbD_98
    replace W := W.box hbD_98
    replace Q_97 := Q_97.box hbl_99
    replace B_2 := B_2.box hbl_99
    replace B_6 := B_6.box hbl_99
    replace B_10 := B_10.box hbl_99
    replace B_14 := B_14.box hbl_99
    replace oD_98 := oD_98.box hbl_99
    replace O_74 := O_74.box hbl_99
    replace O_84 := O_84.box hbl_99
    replace W := W.box hbl_99
    have hz_ : w.heap.size ≤ w_121.heap.size := W.below.size; have ltD_98 := oD_98.lt; have ltl_99 := ol_99.lt
    refine (c38 K n w w_121 [some l_99, some D_98, some b_75, some b_85, some b_13, some b_9, some b_5, some b_1] p_96 _ Q_97 (Nat × ((List (Int)) × (List (Bool)))) (rnd (p27_r1 n x0 x1)) _ l_99 (fun (b_ : Nat × ((List (Int)) × (List (Bool)))) (LO_ : List (Option Nat)) (w_ : World) => ∃ (k_ : Nat) (s_ : (List (Int)) × (List (Bool))) (v_122 : Value) (v_124 : Value), b_ = (k_, s_) ∧ k_ ≤ 0 ∧ LO_ = [some l_99, some D_98, v_122.ownBlock, v_124.ownBlock, some b_13, some b_9, some b_5, some b_1] ∧ Wd w w_ [some l_99, some D_98, v_122.ownBlock, v_124.ownBlock, some b_13, some b_9, some b_5, some b_1] ∧ Bx (.sl gt1) 24 w_ (Kx K w.heap.size [some l_99, some D_98, v_122.ownBlock, v_124.ownBlock, some b_13, some b_9, some b_5, some b_1]) b_1 x0 ∧ Bx .bool 4 w_ (Kx K w.heap.size [some l_99, some D_98, v_122.ownBlock, v_124.ownBlock, some b_13, some b_9, some b_5, some b_1]) b_5 x1 ∧ Bx .raw 27 w_ (Kx K w.heap.size [some l_99, some D_98, v_122.ownBlock, v_124.ownBlock, some b_13, some b_9, some b_5, some b_1]) b_9 v_122 ∧ Bx .raw 53 w_ (Kx K w.heap.size [some l_99, some D_98, v_122.ownBlock, v_124.ownBlock, some b_13, some b_9, some b_5, some b_1]) b_13 v_124 ∧ Ox (.deferred (some [])) w_ D_98 ∧ Ow (.int .i64) 3 w_ w.heap.size (Kx K w.heap.size [some l_99, some D_98, v_122.ownBlock, v_124.ownBlock, some b_13, some b_9, some b_5, some b_1]) v_122 s_.1 (some m_20.2) ∧ Ow .bool 4 w_ w.heap.size (Kx K w.heap.size [some l_99, some D_98, v_122.ownBlock, v_124.ownBlock, some b_13, some b_9, some b_5, some b_1]) v_124 s_.2 (some m_28.2) ∧ Ox (rk rec [] k_) w_ l_99) W ⟨?_, ⟨0, ((List.replicate m_20.1 (0 : Int)), (List.replicate m_28.1 (false : Bool))), (.slice (some ⟨b_75, 0, .none⟩) m_20.1 m_20.2), (.slice (some ⟨b_85, 0, .none⟩) m_28.1 m_28.2), rfl, by decide, rfl, W, B_2, B_6, B_10, B_14, oD_98, O_74, O_84, ol_99⟩, Nat.le_refl _⟩ ?_ ey_115).mono ?_
    · rintro _ LO_ A_ B_ ⟨k_, s_, v_122, v_124, rfl, hk_, rfl, W, B_2, B_6, B_10, B_14, oD_98, O_123, O_125, ol_99⟩ hab_; exact ⟨k_, s_, v_122, v_124, rfl, hk_, rfl, W.ab hab_ (by simp) hz_, B_2.ab hab_ (by simp) (by simp), B_6.ab hab_ (by simp) (by simp), B_10.ab hab_ (by simp) (by simp), B_14.ab hab_ (by simp) (by simp), oD_98.ab hab_ ltD_98 (by simp), O_123.ab hab_ (by simp) (.inr (by simp)), O_125.ab hab_ (by simp) (.inr (by simp)), ol_99.ab hab_ ltl_99 (by simp)⟩
    · intro b_ LO_ A_ x_ v_127 WA_ G_126 R_128 r_ hf_ hJ_
      obtain ⟨s0_, r0_, e1_, hb_, rfl⟩ := rnd_some hf_
      obtain ⟨k_, s_, v_122, v_124, e2_, hk_, rfl, W, B_2, B_6, B_10, B_14, oD_98, O_123, O_125, ol_99⟩ := hJ_
      obtain ⟨q1_, q2_⟩ := Prod.mk.inj (e2_.symm.trans e1_); subst q1_; subst q2_; clear WA_ hf_
      replace ol_99 : Ox (rec .ready none) A_ l_99 := ol_99
      refine yieldAt_of (ps := [16, 17]) (vs := [.int .i64 x_.1, v_127]) hrec S0 ol_99 rfl (by kernel_rfl) ?_; intro a S
      unfold p27_r1 at hb_; try dsimp only at hb_
      have RD := Rnd.start A_ [some l_99, some D_98, v_122.ownBlock, v_124.ownBlock, some b_13, some b_9, some b_5, some b_1]
      replace S : St 81 a [(17, v_127), (16, .int .i64 x_.1), (5, pB b_13), (4, pB b_9), (3, pB b_5), (2, pB b_1)] := S.sub (by exact ⟨rfl, rfl, rfl, rfl, rfl, rfl, trivial⟩)
      refine R.wp_region_lit ?_
      refine R.wl_pure (l' := [(6, .int .i64 x_.1), (17, v_127), (16, .int .i64 x_.1), (5, pB b_13), (4, pB b_9), (3, pB b_5), (2, pB b_1)]) S tys tys_ok 1 (by kernel_rfl) ?_
      clear S; intro a S
      refine R.wpList_nil ?_
      refine then_n ?_
      refine R.begin hrec ol_99 ?_; intro w_129 hN_ ol_99
      replace R_128 := R_128.nc hN_
      replace B_2 := B_2.nc hN_
      replace B_6 := B_6.nc hN_
      replace B_10 := B_10.nc hN_
      replace B_14 := B_14.nc hN_
      replace oD_98 := oD_98.nc hN_ (W.bne (p := 1) (q := 0) (by decide) rfl rfl)
      replace O_123 := O_123.nc hN_
      replace O_125 := O_125.nc hN_
      replace RD := RD.nc hN_ (by simp)
      replace W := W.nc hN_ (by simp)
      refine R.wp_block ?_
      refine R.wp_seq ?_
      refine R.wp_seq ?_
      refine R.wp_region_lit ?_
      refine R.w_go S rfl (op_load (t := (.sl gt1)) (x := x0) S rfl ty24 rfl rfl rfl B_2.at_ ?_)
      clear S; intro a v_130 R_131 S
      refine R.wl_pure (l' := [(19, .int .i64 x_.1), (18, v_130), (6, .int .i64 x_.1), (17, v_127), (16, .int .i64 x_.1), (5, pB b_13), (4, pB b_9), (3, pB b_5), (2, pB b_1)]) S tys tys_ok 1 (by kernel_rfl) ?_
      clear S; intro a S
      obtain ⟨t_132, et_132, hb_⟩ := bindS hb_
      refine R.w_go S rfl (op_call (vs := [v_130, .int .i64 x_.1]) S rfl cb31 rfl rfl rfl (c31 (Kx K w.heap.size [some l_99, some D_98, v_122.ownBlock, v_124.ownBlock, some b_13, some b_9, some b_5, some b_1]) n w_129 x0 _ R_131 x_.1 G_126 et_132) ?_)
      rintro _ w_136 ⟨v_133, rfl, R_134, hb_135⟩; refine ⟨_, rfl, ?_⟩
      replace R_134 := RepV.back R_134 W
      clear S; intro a S
      replace R_128 := R_128.step hb_135
      replace R_131 := R_131.step hb_135
      replace B_2 := B_2.step hb_135
      replace B_6 := B_6.step hb_135
      replace B_10 := B_10.step hb_135
      replace B_14 := B_14.step hb_135
      replace oD_98 := oD_98.step hb_135
      replace ol_99 := ol_99.step hb_135
      replace O_123 := O_123.step hb_135
      replace O_125 := O_125.step hb_135
      replace RD := RD.step hb_135
      replace W := W.step hb_135
      obtain rfl := RepV.bool R_134
      refine R.wl_pureK (l' := [(21, .bool (!t_132)), (6, .int .i64 x_.1), (5, pB b_13), (4, pB b_9), (3, pB b_5), (2, pB b_1)]) S tys tys_ok 1 [21, 6, 5, 4, 3, 2] (by kernel_rfl) ?_
      clear S; intro a S
      refine R.wpList_nil ?_
      refine then_n ?_
      refine R.wp_cond_split (S.eval (show ev _ _ = some (.bool (!t_132)) from rfl)) ?_ ?_
      · intro hc
        rw [if_pos hc] at hb_
        refine R.wp_exit ?_
        refine then_x ?_
        refine blk_hit ?_
        obtain rfl := Option.some.inj hb_
        refine R.end_n hrec ol_99 ?_; intro w_137 hN_ ol_99
        replace B_2 := B_2.nc hN_
        replace B_6 := B_6.nc hN_
        replace B_10 := B_10.nc hN_
        replace B_14 := B_14.nc hN_
        replace oD_98 := oD_98.nc hN_ (W.bne (p := 1) (q := 0) (by decide) rfl rfl)
        replace O_123 := O_123.nc hN_
        replace O_125 := O_125.nc hN_
        replace RD := RD.nc hN_ (by simp)
        replace W := W.nc hN_ (by simp)
        exact ⟨_, rfl, ⟨0, _, v_122, v_124, rfl, by decide, rfl, W, B_2, B_6, B_10, B_14, oD_98, O_123, O_125, ol_99⟩, RD.yst W⟩
      · intro hc
        rw [if_neg (Bool.eq_false_iff.1 hc)] at hb_
        refine R.wp_skip ?_
        refine then_n ?_
        replace S := S.sub (l' := [(6, .int .i64 x_.1), (5, pB b_13), (4, pB b_9), (3, pB b_5), (2, pB b_1)]) (by exact ⟨rfl, rfl, rfl, rfl, rfl, trivial⟩)
        refine R.wp_seq ?_
        refine R.drawn (by kernel_rfl) (by kernel_rfl) ?_
        obtain ⟨y_140, ey_140, hb_⟩ := bindS hb_
        obtain ⟨y_148, ey_148, hb_⟩ := bindS hb_
        obtain ⟨t_154, et_154, hb_⟩ := bindS hb_
        have hR : Rel (Kx K w.heap.size [some l_99, some D_98, v_122.ownBlock, v_124.ownBlock, some b_13, some b_9, some b_5, some b_1]) Bl := Bl.rel _
        refine wr_region_suf 9 [2, 2, 3, 9, 6, 6, 7, 8, 9, 10, 11] hR [eqv (v_122), isI .i64 x_.1, isEo (.int .i64) (Kx K w.heap.size [some l_99, some D_98, v_122.ownBlock, v_124.ownBlock, some b_13, some b_9, some b_5, some b_1]) y_140, isI .i64 y_140, isRep (.sl gt1) (Kx K w.heap.size [some l_99, some D_98, v_122.ownBlock, v_124.ownBlock, some b_13, some b_9, some b_5, some b_1]) x0, isI .i64 x_.1, isEl gt1 (Kx K w.heap.size [some l_99, some D_98, v_122.ownBlock, v_124.ownBlock, some b_13, some b_9, some b_5, some b_1]) y_148, isRep gt1 (Kx K w.heap.size [some l_99, some D_98, v_122.ownBlock, v_124.ownBlock, some b_13, some b_9, some b_5, some b_1]) y_148, isI .i64 t_154] [[], [], [(0, 22), (1, 23)], [(2, 24)], [], [], [(4, 26), (5, 27)], [(6, 28)], [(7, 29)]] (by kernel_rfl) (by rw [S.size]; kernel_rfl) (by kernel_rfl) (by kernel_rfl) (by kernel_rfl) rfl ⟨(stab_eqv _), stab_I, stab_eo, stab_I, (stab_rep hR), stab_I, (stab_el hR), (stab_rep hR), stab_I, trivial⟩ ?_ ?_
        ·
          refine RunAll.cons (eqv (v_122)) [] rfl rfl ?_ ?_
          · intro W_ hW
            have S1 := S
            refine fill_nil S1 ?_; clear S1; intro a_ S1
            replace B_10 := B_10.step hW
            have S0 := S.defers; replace S := S1; clear S1
            refine w_go S rfl (op_load (t := .raw) (x := v_122) S rfl tyr27 rfl rfl rfl B_10.at_ ?_)
            clear S; intro a v_159 R_160 S
            have q_ := (RepV.rawEq R_160).symm; clear R_160; subst q_
            refine wpList_nil ?_
            exact RPost.mk_ S rfl S0 rfl (Below.refl _ _)
          refine RunAll.cons (isI .i64 x_.1) [] rfl rfl ?_ ?_
          · intro W_ hW
            have S1 := S
            refine fill_nil S1 ?_; clear S1; intro a_ S1
            have S0 := S.defers; replace S := S1; clear S1
            refine wl_pure (l' := [(23, .int .i64 x_.1), (6, .int .i64 x_.1), (5, pB b_13), (4, pB b_9), (3, pB b_5), (2, pB b_1)]) S tys tys_ok 1 (by kernel_rfl) ?_; clear S; intro a S
            refine wpList_nil ?_
            exact RPost.mk_ S rfl S0 ⟨rfl, G_126⟩ (Below.refl _ _)
          refine RunAll.cons (isEo (.int .i64) (Kx K w.heap.size [some l_99, some D_98, v_122.ownBlock, v_124.ownBlock, some b_13, some b_9, some b_5, some b_1]) y_140) [(eqv (v_122), 22), (isI .i64 x_.1, 23)] rfl rfl ?_ ?_
          · intro W_ hW
            have S1 := S
            intro v_162 hF_161; obtain rfl : v_122 = v_162 := Eq.symm hF_161
            replace S1 := S1.put (by decide : 22 < 81) (v_122)
            rintro _ ⟨rfl, hF_163⟩
            replace S1 := S1.put (by decide : 23 < 81) (.int .i64 x_.1)
            refine fill_nil S1 ?_; clear S1; intro a_ S1
            replace O_123 := O_123.step hW
            replace W := W.step hW
            have S0 := S.defers; replace S := S1; clear S1
            refine w_go S rfl (op_indexAddr_own S rfl ty27 rfl rfl rfl O_123 rfl ey_140 ?_)
            clear S; intro a g_165 H_167 R_166 S
            refine wpList_nil ?_
            exact RPost.mk_ S rfl S0 ⟨_, rfl, R_166, W.ownlt (o := v_122.ownBlock) (List.mem_of_getElem? (i := 2) rfl) H_167⟩ (Below.refl _ _)
          refine RunAll.cons (isI .i64 y_140) [(isEo (.int .i64) (Kx K w.heap.size [some l_99, some D_98, v_122.ownBlock, v_124.ownBlock, some b_13, some b_9, some b_5, some b_1]) y_140, 24)] rfl rfl ?_ ?_
          · intro W_ hW
            have S1 := S
            rintro _ ⟨p_170, rfl, R_171, H_172⟩
            replace S1 := S1.put (by decide : 24 < 81) (.pointer (some p_170))
            refine fill_nil S1 ?_; clear S1; intro a_ S1
            have S0 := S.defers; replace S := S1; clear S1
            refine w_go S rfl (op_load (t := (.int .i64)) (x := y_140) S rfl ty3 rfl rfl rfl R_171 ?_)
            clear S; intro a v_173 R_174 S
            obtain ⟨rfl, GR_174⟩ := RepV.int R_174
            refine wpList_nil ?_
            exact RPost.mk_ S rfl S0 ⟨rfl, GR_174⟩ (Below.refl _ _)
          refine RunAll.cons (isRep (.sl gt1) (Kx K w.heap.size [some l_99, some D_98, v_122.ownBlock, v_124.ownBlock, some b_13, some b_9, some b_5, some b_1]) x0) [] rfl rfl ?_ ?_
          · intro W_ hW
            have S1 := S
            refine fill_nil S1 ?_; clear S1; intro a_ S1
            replace B_2 := B_2.step hW
            have S0 := S.defers; replace S := S1; clear S1
            refine w_go S rfl (op_load (t := (.sl gt1)) (x := x0) S rfl ty24 rfl rfl rfl B_2.at_ ?_)
            clear S; intro a v_175 R_176 S
            refine wpList_nil ?_
            exact RPost.mk_ S rfl S0 R_176 (Below.refl _ _)
          refine RunAll.cons (isI .i64 x_.1) [] rfl rfl ?_ ?_
          · intro W_ hW
            have S1 := S
            refine fill_nil S1 ?_; clear S1; intro a_ S1
            have S0 := S.defers; replace S := S1; clear S1
            refine wl_pure (l' := [(27, .int .i64 x_.1), (6, .int .i64 x_.1), (5, pB b_13), (4, pB b_9), (3, pB b_5), (2, pB b_1)]) S tys tys_ok 1 (by kernel_rfl) ?_; clear S; intro a S
            refine wpList_nil ?_
            exact RPost.mk_ S rfl S0 ⟨rfl, G_126⟩ (Below.refl _ _)
          refine RunAll.cons (isEl gt1 (Kx K w.heap.size [some l_99, some D_98, v_122.ownBlock, v_124.ownBlock, some b_13, some b_9, some b_5, some b_1]) y_148) [(isRep (.sl gt1) (Kx K w.heap.size [some l_99, some D_98, v_122.ownBlock, v_124.ownBlock, some b_13, some b_9, some b_5, some b_1]) x0, 26), (isI .i64 x_.1, 27)] rfl rfl ?_ ?_
          · intro W_ hW
            have S1 := S
            intro v_178 hF_177; replace hF_177 : RepV _ _ _ _ _ := hF_177
            replace S1 := S1.put (by decide : 26 < 81) (v_178)
            rintro _ ⟨rfl, hF_179⟩
            replace S1 := S1.put (by decide : 27 < 81) (.int .i64 x_.1)
            refine fill_nil S1 ?_; clear S1; intro a_ S1
            replace W := W.step hW
            have S0 := S.defers; replace S := S1; clear S1
            refine w_go S rfl (op_indexAddr S rfl ty24 rfl rfl rfl hF_177 rfl ey_148 ?_)
            clear S; intro a p_181 R_182 H_183 S
            refine wpList_nil ?_
            exact RPost.mk_ S rfl S0 ⟨_, rfl, R_182, H_183⟩ (Below.refl _ _)
          refine RunAll.cons (isRep gt1 (Kx K w.heap.size [some l_99, some D_98, v_122.ownBlock, v_124.ownBlock, some b_13, some b_9, some b_5, some b_1]) y_148) [(isEl gt1 (Kx K w.heap.size [some l_99, some D_98, v_122.ownBlock, v_124.ownBlock, some b_13, some b_9, some b_5, some b_1]) y_148, 28)] rfl rfl ?_ ?_
          · intro W_ hW
            have S1 := S
            rintro _ ⟨p_186, rfl, R_187, H_188⟩
            replace S1 := S1.put (by decide : 28 < 81) (.pointer (some p_186))
            refine fill_nil S1 ?_; clear S1; intro a_ S1
            have S0 := S.defers; replace S := S1; clear S1
            refine w_go S rfl (op_load (t := gt1) (x := y_148) S rfl ty32 rfl rfl rfl R_187 ?_)
            clear S; intro a v_189 R_190 S
            refine wpList_nil ?_
            exact RPost.mk_ S rfl S0 R_190 (Below.refl _ _)
          refine RunAll.cons (isI .i64 t_154) [(isRep gt1 (Kx K w.heap.size [some l_99, some D_98, v_122.ownBlock, v_124.ownBlock, some b_13, some b_9, some b_5, some b_1]) y_148, 29)] rfl rfl ?_ ?_
          · intro W_ hW
            have S1 := S
            intro v_192 hF_191; replace hF_191 : RepV _ _ _ _ _ := hF_191
            replace S1 := S1.put (by decide : 29 < 81) (v_192)
            refine fill_nil S1 ?_; clear S1; intro a_ S1
            replace W := W.step hW
            have S0 := S.defers; replace S := S1; clear S1
            refine w_go S rfl (op_call (vs := [v_192]) S rfl cb12 rfl rfl rfl (c12 (Kx K w.heap.size [some l_99, some D_98, v_122.ownBlock, v_124.ownBlock, some b_13, some b_9, some b_5, some b_1]) n W_ y_148 _ hF_191 et_154) ?_)
            rintro _ w_196 ⟨v_193, rfl, R_194, hb_195⟩; refine ⟨_, rfl, ?_⟩
            replace R_194 := RepV.back R_194 W
            clear S; intro a S
            obtain ⟨rfl, GR_194⟩ := RepV.int R_194
            refine wpList_nil ?_
            exact RPost.mk_ S rfl S0 ⟨rfl, GR_194⟩ (hb_195)
          exact trivial
        intro w_197 hb_198
        refine EndE.some_ rfl ?_
        intro v_200 hF_199; obtain rfl : v_122 = v_200 := Eq.symm hF_199
        replace S := S.put (by decide : 22 < 81) (v_122)
        refine EndE.some_ rfl ?_
        rintro _ ⟨rfl, hF_201⟩
        replace S := S.put (by decide : 23 < 81) (.int .i64 x_.1)
        refine EndE.some_ rfl ?_
        rintro _ ⟨p_205, rfl, R_206, H_207⟩
        replace S := S.put (by decide : 24 < 81) (.pointer (some p_205))
        refine EndE.some_ rfl ?_
        rintro _ ⟨rfl, hF_208⟩
        replace S := S.put (by decide : 25 < 81) (.int .i64 y_140)
        refine EndE.some_ rfl ?_
        intro v_211 hF_210; replace hF_210 : RepV _ _ _ _ _ := hF_210
        replace S := S.put (by decide : 26 < 81) (v_211)
        refine EndE.some_ rfl ?_
        rintro _ ⟨rfl, hF_212⟩
        replace S := S.put (by decide : 27 < 81) (.int .i64 x_.1)
        refine EndE.some_ rfl ?_
        rintro _ ⟨p_216, rfl, R_217, H_218⟩
        replace S := S.put (by decide : 28 < 81) (.pointer (some p_216))
        refine EndE.some_ rfl ?_
        intro v_220 hF_219; replace hF_219 : RepV _ _ _ _ _ := hF_219
        replace S := S.put (by decide : 29 < 81) (v_220)
        refine EndE.some_ rfl ?_
        rintro _ ⟨rfl, hF_221⟩
        replace S := S.put (by decide : 30 < 81) (.int .i64 t_154)
        refine endE_nil S ?_; clear S; intro a S
        replace B_2 := B_2.step hb_198
        replace B_6 := B_6.step hb_198
        replace B_10 := B_10.step hb_198
        replace B_14 := B_14.step hb_198
        replace oD_98 := oD_98.step hb_198
        replace ol_99 := ol_99.step hb_198
        replace O_123 := O_123.step hb_198
        replace O_125 := O_125.step hb_198
        replace RD := RD.step hb_198
        replace W := W.step hb_198
        obtain ⟨x_223, ex_223, hb_⟩ := bindS hb_
        refine w_go S rfl (op_arith S .i64 (y_140 + t_154) rfl (.inl rfl) rfl rfl rfl rfl ex_223 ?_)
        clear S; intro a S
        obtain ⟨y_224, ey_224, hb_⟩ := bindS hb_
        refine w_go S rfl (op_indexAddr_own S rfl ty27 rfl rfl rfl O_123 rfl ey_224 ?_)
        clear S; intro a g_225 H_227 R_226 S
        refine w_go S rfl (op_store_own (t' := (.int .i64)) S rfl rfl ty3 rfl rfl rfl O_123 H_227 2 rfl (idx_some ey_224).2.1 Ln.whole ((RepV.mkInt (ckI_some ex_223).2.1) : RepV (.int .i64) w_197 (Kx K w.heap.size [some l_99, some D_98, v_122.ownBlock, v_124.ownBlock, some b_13, some b_9, some b_5, some b_1]) _ x_223) ?_)
        intro w_228 hw_229 hm_231 O_230
        replace hF_210 := hF_210.wrote hw_229 hm_231
        replace hF_219 := hF_219.wrote hw_229 hm_231
        replace B_2 := B_2.wrote hw_229 hm_231 (by have h_ := W.one (p := 2) (q := 7) (by decide) rfl rfl; exact fun e_ => h_ (by rw [e_]; exact H_227))
        replace B_6 := B_6.wrote hw_229 hm_231 (by have h_ := W.one (p := 2) (q := 6) (by decide) rfl rfl; exact fun e_ => h_ (by rw [e_]; exact H_227))
        replace B_10 := B_10.wrote hw_229 hm_231 (by have h_ := W.one (p := 2) (q := 5) (by decide) rfl rfl; exact fun e_ => h_ (by rw [e_]; exact H_227))
        replace B_14 := B_14.wrote hw_229 hm_231 (by have h_ := W.one (p := 2) (q := 4) (by decide) rfl rfl; exact fun e_ => h_ (by rw [e_]; exact H_227))
        replace oD_98 := oD_98.wrote hw_229 trivial (by have h_ := W.one (p := 2) (q := 1) (by decide) rfl rfl; exact fun e_ => h_ (by rw [e_]; exact H_227))
        replace ol_99 := ol_99.wrote hw_229 trivial (by have h_ := W.one (p := 2) (q := 0) (by decide) rfl rfl; exact fun e_ => h_ (by rw [e_]; exact H_227))
        replace O_125 := O_125.wrote hw_229 hm_231 (fun e_ => (W.neq (p := 2) (q := 3) (by decide) rfl rfl).elim (fun h_ => absurd (Eq.trans (Eq.symm h_) H_227) (fun k_ => nomatch k_)) (fun h_ => h_ (Eq.trans H_227 e_.symm)))
        replace RD := RD.wrote hw_229 hm_231
        replace W := W.wrote hw_229 hm_231
        replace O_230 : Ow (.int .i64) 3 w_228 w.heap.size (Kx K w.heap.size [some l_99, some D_98, v_122.ownBlock, v_124.ownBlock, some b_13, some b_9, some b_5, some b_1]) v_122 (s_.1.set x_.1.toNat x_223) (some m_20.2) := O_230
        refine wpList_nil ?_
        refine then_n ?_
        replace S := S.sub (l' := [(6, .int .i64 x_.1), (5, pB b_13), (4, pB b_9), (3, pB b_5), (2, pB b_1)]) (by exact ⟨rfl, rfl, rfl, rfl, rfl, trivial⟩)
        refine R.wp_seq ?_
        refine R.wp_seq ?_
        refine R.drawn (by kernel_rfl) (by kernel_rfl) ?_
        obtain ⟨y_236, ey_236, hb_⟩ := bindS hb_
        obtain ⟨t_244, et_244, hb_⟩ := bindS hb_
        have hR : Rel (Kx K w.heap.size [some l_99, some D_98, v_122.ownBlock, v_124.ownBlock, some b_13, some b_9, some b_5, some b_1]) Bl := Bl.rel _
        refine wr_region_suf 10 [10, 10, 10, 10, 10, 10, 10, 10, 10, 10, 11] hR [eqv (v_124), isI .i64 x_.1, eqv (v_122), isI .i64 x_.1, isEo (.int .i64) (Kx K w.heap.size [some l_99, some D_98, v_122.ownBlock, v_124.ownBlock, some b_13, some b_9, some b_5, some b_1]) y_236, isI .i64 y_236, isRep (.sl gt1) (Kx K w.heap.size [some l_99, some D_98, v_122.ownBlock, v_124.ownBlock, some b_13, some b_9, some b_5, some b_1]) x0, isI .i64 x_.1, isI .i64 t_244, eqv (.bool (decide (y_236 > t_244)))] [[], [], [], [], [(2, 35), (3, 36)], [(4, 37)], [], [], [(6, 39), (7, 40)], [(5, 38), (8, 41)]] (by kernel_rfl) (by rw [S.size]; kernel_rfl) (by kernel_rfl) (by kernel_rfl) (by kernel_rfl) rfl ⟨(stab_eqv _), stab_I, (stab_eqv _), stab_I, stab_eo, stab_I, (stab_rep hR), stab_I, stab_I, (stab_eqv _), trivial⟩ ?_ ?_
        ·
          refine RunAll.cons (eqv (v_124)) [] rfl rfl ?_ ?_
          · intro W_ hW
            have S1 := S
            refine fill_nil S1 ?_; clear S1; intro a_ S1
            replace B_14 := B_14.step hW
            have S0 := S.defers; replace S := S1; clear S1
            refine w_go S rfl (op_load (t := .raw) (x := v_124) S rfl tyr53 rfl rfl rfl B_14.at_ ?_)
            clear S; intro a v_249 R_250 S
            have q_ := (RepV.rawEq R_250).symm; clear R_250; subst q_
            refine wpList_nil ?_
            exact RPost.mk_ S rfl S0 rfl (Below.refl _ _)
          refine RunAll.cons (isI .i64 x_.1) [] rfl rfl ?_ ?_
          · intro W_ hW
            have S1 := S
            refine fill_nil S1 ?_; clear S1; intro a_ S1
            have S0 := S.defers; replace S := S1; clear S1
            refine wl_pure (l' := [(34, .int .i64 x_.1), (6, .int .i64 x_.1), (5, pB b_13), (4, pB b_9), (3, pB b_5), (2, pB b_1)]) S tys tys_ok 1 (by kernel_rfl) ?_; clear S; intro a S
            refine wpList_nil ?_
            exact RPost.mk_ S rfl S0 ⟨rfl, G_126⟩ (Below.refl _ _)
          refine RunAll.cons (eqv (v_122)) [] rfl rfl ?_ ?_
          · intro W_ hW
            have S1 := S
            refine fill_nil S1 ?_; clear S1; intro a_ S1
            replace B_10 := B_10.step hW
            have S0 := S.defers; replace S := S1; clear S1
            refine w_go S rfl (op_load (t := .raw) (x := v_122) S rfl tyr27 rfl rfl rfl B_10.at_ ?_)
            clear S; intro a v_251 R_252 S
            have q_ := (RepV.rawEq R_252).symm; clear R_252; subst q_
            refine wpList_nil ?_
            exact RPost.mk_ S rfl S0 rfl (Below.refl _ _)
          refine RunAll.cons (isI .i64 x_.1) [] rfl rfl ?_ ?_
          · intro W_ hW
            have S1 := S
            refine fill_nil S1 ?_; clear S1; intro a_ S1
            have S0 := S.defers; replace S := S1; clear S1
            refine wl_pure (l' := [(36, .int .i64 x_.1), (6, .int .i64 x_.1), (5, pB b_13), (4, pB b_9), (3, pB b_5), (2, pB b_1)]) S tys tys_ok 1 (by kernel_rfl) ?_; clear S; intro a S
            refine wpList_nil ?_
            exact RPost.mk_ S rfl S0 ⟨rfl, G_126⟩ (Below.refl _ _)
          refine RunAll.cons (isEo (.int .i64) (Kx K w.heap.size [some l_99, some D_98, v_122.ownBlock, v_124.ownBlock, some b_13, some b_9, some b_5, some b_1]) y_236) [(eqv (v_122), 35), (isI .i64 x_.1, 36)] rfl rfl ?_ ?_
          · intro W_ hW
            have S1 := S
            intro v_254 hF_253; obtain rfl : v_122 = v_254 := Eq.symm hF_253
            replace S1 := S1.put (by decide : 35 < 81) (v_122)
            rintro _ ⟨rfl, hF_255⟩
            replace S1 := S1.put (by decide : 36 < 81) (.int .i64 x_.1)
            refine fill_nil S1 ?_; clear S1; intro a_ S1
            replace O_230 := O_230.step hW
            replace W := W.step hW
            have S0 := S.defers; replace S := S1; clear S1
            refine w_go S rfl (op_indexAddr_own S rfl ty27 rfl rfl rfl O_230 rfl ey_236 ?_)
            clear S; intro a g_257 H_259 R_258 S
            refine wpList_nil ?_
            exact RPost.mk_ S rfl S0 ⟨_, rfl, R_258, W.ownlt (o := v_122.ownBlock) (List.mem_of_getElem? (i := 2) rfl) H_259⟩ (Below.refl _ _)
          refine RunAll.cons (isI .i64 y_236) [(isEo (.int .i64) (Kx K w.heap.size [some l_99, some D_98, v_122.ownBlock, v_124.ownBlock, some b_13, some b_9, some b_5, some b_1]) y_236, 37)] rfl rfl ?_ ?_
          · intro W_ hW
            have S1 := S
            rintro _ ⟨p_262, rfl, R_263, H_264⟩
            replace S1 := S1.put (by decide : 37 < 81) (.pointer (some p_262))
            refine fill_nil S1 ?_; clear S1; intro a_ S1
            have S0 := S.defers; replace S := S1; clear S1
            refine w_go S rfl (op_load (t := (.int .i64)) (x := y_236) S rfl ty3 rfl rfl rfl R_263 ?_)
            clear S; intro a v_265 R_266 S
            obtain ⟨rfl, GR_266⟩ := RepV.int R_266
            refine wpList_nil ?_
            exact RPost.mk_ S rfl S0 ⟨rfl, GR_266⟩ (Below.refl _ _)
          refine RunAll.cons (isRep (.sl gt1) (Kx K w.heap.size [some l_99, some D_98, v_122.ownBlock, v_124.ownBlock, some b_13, some b_9, some b_5, some b_1]) x0) [] rfl rfl ?_ ?_
          · intro W_ hW
            have S1 := S
            refine fill_nil S1 ?_; clear S1; intro a_ S1
            replace B_2 := B_2.step hW
            have S0 := S.defers; replace S := S1; clear S1
            refine w_go S rfl (op_load (t := (.sl gt1)) (x := x0) S rfl ty24 rfl rfl rfl B_2.at_ ?_)
            clear S; intro a v_267 R_268 S
            refine wpList_nil ?_
            exact RPost.mk_ S rfl S0 R_268 (Below.refl _ _)
          refine RunAll.cons (isI .i64 x_.1) [] rfl rfl ?_ ?_
          · intro W_ hW
            have S1 := S
            refine fill_nil S1 ?_; clear S1; intro a_ S1
            have S0 := S.defers; replace S := S1; clear S1
            refine wl_pure (l' := [(40, .int .i64 x_.1), (6, .int .i64 x_.1), (5, pB b_13), (4, pB b_9), (3, pB b_5), (2, pB b_1)]) S tys tys_ok 1 (by kernel_rfl) ?_; clear S; intro a S
            refine wpList_nil ?_
            exact RPost.mk_ S rfl S0 ⟨rfl, G_126⟩ (Below.refl _ _)
          refine RunAll.cons (isI .i64 t_244) [(isRep (.sl gt1) (Kx K w.heap.size [some l_99, some D_98, v_122.ownBlock, v_124.ownBlock, some b_13, some b_9, some b_5, some b_1]) x0, 39), (isI .i64 x_.1, 40)] rfl rfl ?_ ?_
          · intro W_ hW
            have S1 := S
            intro v_270 hF_269; replace hF_269 : RepV _ _ _ _ _ := hF_269
            replace S1 := S1.put (by decide : 39 < 81) (v_270)
            rintro _ ⟨rfl, hF_271⟩
            replace S1 := S1.put (by decide : 40 < 81) (.int .i64 x_.1)
            refine fill_nil S1 ?_; clear S1; intro a_ S1
            replace W := W.step hW
            have S0 := S.defers; replace S := S1; clear S1
            refine w_go S rfl (op_call (vs := [v_270, .int .i64 x_.1]) S rfl cb28 rfl rfl rfl (c28 (Kx K w.heap.size [some l_99, some D_98, v_122.ownBlock, v_124.ownBlock, some b_13, some b_9, some b_5, some b_1]) n W_ x0 _ hF_269 x_.1 hF_271 et_244) ?_)
            rintro _ w_276 ⟨v_273, rfl, R_274, hb_275⟩; refine ⟨_, rfl, ?_⟩
            replace R_274 := RepV.back R_274 W
            clear S; intro a S
            obtain ⟨rfl, GR_274⟩ := RepV.int R_274
            refine wpList_nil ?_
            exact RPost.mk_ S rfl S0 ⟨rfl, GR_274⟩ (hb_275)
          refine RunAll.cons (eqv (.bool (decide (y_236 > t_244)))) [(isI .i64 y_236, 38), (isI .i64 t_244, 41)] rfl rfl ?_ ?_
          · intro W_ hW
            have S1 := S
            rintro _ ⟨rfl, hF_277⟩
            replace S1 := S1.put (by decide : 38 < 81) (.int .i64 y_236)
            rintro _ ⟨rfl, hF_279⟩
            replace S1 := S1.put (by decide : 41 < 81) (.int .i64 t_244)
            refine fill_nil S1 ?_; clear S1; intro a_ S1
            have S0 := S.defers; replace S := S1; clear S1
            refine wl_pure (l' := [(42, .bool (decide (y_236 > t_244))), (41, .int .i64 t_244), (38, .int .i64 y_236), (6, .int .i64 x_.1), (5, pB b_13), (4, pB b_9), (3, pB b_5), (2, pB b_1)]) S tys tys_ok 1 (by kernel_rfl) ?_; clear S; intro a S
            refine wpList_nil ?_
            exact RPost.mk_ S rfl S0 rfl (Below.refl _ _)
          exact trivial
        intro w_281 hb_282
        refine EndE.some_ rfl ?_
        intro v_284 hF_283; obtain rfl : v_124 = v_284 := Eq.symm hF_283
        replace S := S.put (by decide : 33 < 81) (v_124)
        refine EndE.some_ rfl ?_
        rintro _ ⟨rfl, hF_285⟩
        replace S := S.put (by decide : 34 < 81) (.int .i64 x_.1)
        refine EndE.some_ rfl ?_
        intro v_288 hF_287; obtain rfl : v_122 = v_288 := Eq.symm hF_287
        replace S := S.put (by decide : 35 < 81) (v_122)
        refine EndE.some_ rfl ?_
        rintro _ ⟨rfl, hF_289⟩
        replace S := S.put (by decide : 36 < 81) (.int .i64 x_.1)
        refine EndE.some_ rfl ?_
        rintro _ ⟨p_293, rfl, R_294, H_295⟩
        replace S := S.put (by decide : 37 < 81) (.pointer (some p_293))
        refine EndE.some_ rfl ?_
        rintro _ ⟨rfl, hF_296⟩
        replace S := S.put (by decide : 38 < 81) (.int .i64 y_236)
        refine EndE.some_ rfl ?_
        intro v_299 hF_298; replace hF_298 : RepV _ _ _ _ _ := hF_298
        replace S := S.put (by decide : 39 < 81) (v_299)
        refine EndE.some_ rfl ?_
        rintro _ ⟨rfl, hF_300⟩
        replace S := S.put (by decide : 40 < 81) (.int .i64 x_.1)
        refine EndE.some_ rfl ?_
        rintro _ ⟨rfl, hF_302⟩
        replace S := S.put (by decide : 41 < 81) (.int .i64 t_244)
        refine EndE.some_ rfl ?_
        intro v_305 hF_304; obtain rfl : .bool (decide (y_236 > t_244)) = v_305 := Eq.symm hF_304
        replace S := S.put (by decide : 42 < 81) (.bool (decide (y_236 > t_244)))
        refine endE_nil S ?_; clear S; intro a S
        replace B_2 := B_2.step hb_282
        replace B_6 := B_6.step hb_282
        replace B_10 := B_10.step hb_282
        replace B_14 := B_14.step hb_282
        replace oD_98 := oD_98.step hb_282
        replace ol_99 := ol_99.step hb_282
        replace O_230 := O_230.step hb_282
        replace O_125 := O_125.step hb_282
        replace RD := RD.step hb_282
        replace W := W.step hb_282
        obtain ⟨y_306, ey_306, hb_⟩ := bindS hb_
        refine w_go S rfl (op_indexAddr_own S rfl ty53 rfl rfl rfl O_125 rfl ey_306 ?_)
        clear S; intro a g_307 H_309 R_308 S
        refine w_go S rfl (op_store_own (t' := .bool) S rfl rfl ty4 rfl rfl rfl O_125 H_309 3 rfl (idx_some ey_306).2.1 Ln.whole (RepV.mkBool : RepV .bool w_281 (Kx K w.heap.size [some l_99, some D_98, v_122.ownBlock, v_124.ownBlock, some b_13, some b_9, some b_5, some b_1]) _ (decide (y_236 > t_244))) ?_)
        intro w_310 hw_311 hm_313 O_312
        replace hF_298 := hF_298.wrote hw_311 hm_313
        replace B_2 := B_2.wrote hw_311 hm_313 (by have h_ := W.one (p := 3) (q := 7) (by decide) rfl rfl; exact fun e_ => h_ (by rw [e_]; exact H_309))
        replace B_6 := B_6.wrote hw_311 hm_313 (by have h_ := W.one (p := 3) (q := 6) (by decide) rfl rfl; exact fun e_ => h_ (by rw [e_]; exact H_309))
        replace B_10 := B_10.wrote hw_311 hm_313 (by have h_ := W.one (p := 3) (q := 5) (by decide) rfl rfl; exact fun e_ => h_ (by rw [e_]; exact H_309))
        replace B_14 := B_14.wrote hw_311 hm_313 (by have h_ := W.one (p := 3) (q := 4) (by decide) rfl rfl; exact fun e_ => h_ (by rw [e_]; exact H_309))
        replace oD_98 := oD_98.wrote hw_311 trivial (by have h_ := W.one (p := 3) (q := 1) (by decide) rfl rfl; exact fun e_ => h_ (by rw [e_]; exact H_309))
        replace ol_99 := ol_99.wrote hw_311 trivial (by have h_ := W.one (p := 3) (q := 0) (by decide) rfl rfl; exact fun e_ => h_ (by rw [e_]; exact H_309))
        replace O_230 := O_230.wrote hw_311 hm_313 (fun e_ => (W.neq (p := 3) (q := 2) (by decide) rfl rfl).elim (fun h_ => absurd (Eq.trans (Eq.symm h_) H_309) (fun k_ => nomatch k_)) (fun h_ => h_ (Eq.trans H_309 e_.symm)))
        replace RD := RD.wrote hw_311 hm_313
        replace W := W.wrote hw_311 hm_313
        replace O_312 : Ow .bool 4 w_310 w.heap.size (Kx K w.heap.size [some l_99, some D_98, v_122.ownBlock, v_124.ownBlock, some b_13, some b_9, some b_5, some b_1]) v_124 (s_.2.set x_.1.toNat (decide (y_236 > t_244))) (some m_28.2) := O_312
        refine wpList_nil ?_
        refine then_n ?_
        replace S := S.sub (l' := [(6, .int .i64 x_.1), (5, pB b_13), (4, pB b_9), (3, pB b_5), (2, pB b_1)]) (by exact ⟨rfl, rfl, rfl, rfl, rfl, trivial⟩)
        refine R.wp_seq ?_
        refine R.wp_region_lit ?_
        refine R.w_go S rfl (op_load (t := .raw) (x := v_124) S rfl tyr53 rfl rfl rfl B_14.at_ ?_)
        clear S; intro a v_314 R_315 S
        have q_ := (RepV.rawEq R_315).symm; clear R_315; subst q_
        refine R.wl_pure (l' := [(45, .int .i64 x_.1), (44, v_124), (6, .int .i64 x_.1), (5, pB b_13), (4, pB b_9), (3, pB b_5), (2, pB b_1)]) S tys tys_ok 1 (by kernel_rfl) ?_
        clear S; intro a S
        obtain ⟨y_316, ey_316, hb_⟩ := bindS hb_
        refine R.w_go S rfl (op_indexAddr_own S rfl ty53 rfl rfl rfl O_312 rfl ey_316 ?_)
        clear S; intro a g_317 H_319 R_318 S
        refine R.w_go S rfl (op_load (t := .bool) (x := y_316) S rfl ty4 rfl rfl rfl R_318 ?_)
        clear S; intro a v_320 R_321 S
        obtain rfl := RepV.bool R_321
        refine R.wl_pureK (l' := [(48, .bool y_316), (6, .int .i64 x_.1), (4, pB b_9), (3, pB b_5), (2, pB b_1)]) S tys tys_ok 1 [48, 6, 4, 3, 2] (by kernel_rfl) ?_
        clear S; intro a S
        obtain ⟨q_322, eq_322, hb_⟩ := bindS hb_
        refine R.seg 2 (fun a_ w_ => w_310 = w_ ∧ St 81 a_ [(50, .bool q_322), (6, .int .i64 x_.1), (4, pB b_9), (2, pB b_1)]) ?_ ?_
        · by_cases hc : y_316 = true
          · rw [if_pos hc] at eq_322; rw [hc] at S
            refine R.w_go S rfl (op_load (t := .bool) (x := x1) S rfl ty4 rfl rfl rfl B_6.at_ ?_)
            clear S; intro a v_323 R_324 S
            obtain rfl := RepV.bool R_324
            refine R.wl_pureK (l' := [(50, .bool x1), (6, .int .i64 x_.1), (4, pB b_9), (2, pB b_1)]) S tys tys_ok 1 [50, 6, 4, 2] (by kernel_rfl) ?_
            clear S; intro a S
            obtain rfl := Option.some.inj eq_322
            refine R.wpList_nil ?_
            exact ⟨rfl, S.sub (by exact ⟨rfl, rfl, rfl, rfl, trivial⟩)⟩
          · rw [if_neg hc] at eq_322; rw [show y_316 = false from Bool.eq_false_iff.2 hc] at S
            refine R.wl_pureK (l' := [(50, .bool false), (6, .int .i64 x_.1), (4, pB b_9), (2, pB b_1)]) S tys tys_ok 2 [50, 6, 4, 2] (by kernel_rfl) ?_
            clear S; intro a S
            obtain rfl := Option.some.inj eq_322
            refine R.wpList_nil ?_
            exact ⟨rfl, S.sub (by exact ⟨rfl, rfl, rfl, rfl, trivial⟩)⟩
        clear S eq_322; rintro a _ ⟨rfl, S⟩
        refine R.wpList_nil ?_
        refine then_n ?_
        obtain ⟨j_325, ej_325, hb_⟩ := bindS hb_
        refine R.wp_cut_ (fun a_ w_ => ∃ (v_326 : Value), St 81 a_ [(6, .int .i64 x_.1), (4, pB b_9), (2, pB b_1)] ∧ Wd w w_ [some l_99, some D_98, v_326.ownBlock, v_124.ownBlock, some b_13, some b_9, some b_5, some b_1] ∧ Bx (.sl gt1) 24 w_ (Kx K w.heap.size [some l_99, some D_98, v_326.ownBlock, v_124.ownBlock, some b_13, some b_9, some b_5, some b_1]) b_1 x0 ∧ Bx .bool 4 w_ (Kx K w.heap.size [some l_99, some D_98, v_326.ownBlock, v_124.ownBlock, some b_13, some b_9, some b_5, some b_1]) b_5 x1 ∧ Bx .raw 27 w_ (Kx K w.heap.size [some l_99, some D_98, v_326.ownBlock, v_124.ownBlock, some b_13, some b_9, some b_5, some b_1]) b_9 v_326 ∧ Bx .raw 53 w_ (Kx K w.heap.size [some l_99, some D_98, v_326.ownBlock, v_124.ownBlock, some b_13, some b_9, some b_5, some b_1]) b_13 v_124 ∧ Ox (.deferred (some [])) w_ D_98 ∧ Ox (rec .busy none) w_ l_99 ∧ Ow (.int .i64) 3 w_ w.heap.size (Kx K w.heap.size [some l_99, some D_98, v_326.ownBlock, v_124.ownBlock, some b_13, some b_9, some b_5, some b_1]) v_326 j_325 (some m_20.2) ∧ Ow .bool 4 w_ w.heap.size (Kx K w.heap.size [some l_99, some D_98, v_326.ownBlock, v_124.ownBlock, some b_13, some b_9, some b_5, some b_1]) v_124 (s_.2.set x_.1.toNat (decide (y_236 > t_244))) (some m_28.2) ∧ Rnd A_ [some l_99, some D_98, v_122.ownBlock, v_124.ownBlock, some b_13, some b_9, some b_5, some b_1] w_ [some l_99, some D_98, v_326.ownBlock, v_124.ownBlock, some b_13, some b_9, some b_5, some b_1]) ?_ ?_
        · refine R.wp_cond_split (S.eval (show ev _ _ = some (.bool q_322) from rfl)) ?_ ?_
          · intro hc
            rw [if_pos hc] at ej_325
            refine R.wp_region_lit ?_
            refine R.w_go S rfl (op_load (t := .raw) (x := v_122) S rfl tyr27 rfl rfl rfl B_10.at_ ?_)
            clear S; intro a v_328 R_329 S
            have q_ := (RepV.rawEq R_329).symm; clear R_329; subst q_
            refine R.wl_pure (l' := [(52, .int .i64 x_.1), (51, v_122), (50, .bool q_322), (6, .int .i64 x_.1), (4, pB b_9), (2, pB b_1)]) S tys tys_ok 1 (by kernel_rfl) ?_
            clear S; intro a S
            obtain ⟨y_330, ey_330, ej_325⟩ := bindS ej_325
            refine R.w_go S rfl (op_indexAddr_own S rfl ty27 rfl rfl rfl O_230 rfl ey_330 ?_)
            clear S; intro a g_331 H_333 R_332 S
            refine R.w_go S rfl (op_store_own (t' := (.int .i64)) S rfl rfl ty3 rfl rfl rfl O_230 H_333 2 rfl (idx_some ey_330).2.1 Ln.whole ((RepV.mkInt (by decide)) : RepV (.int .i64) w_310 (Kx K w.heap.size [some l_99, some D_98, v_122.ownBlock, v_124.ownBlock, some b_13, some b_9, some b_5, some b_1]) _ 0) ?_)
            intro w_334 hw_335 hm_337 O_336
            replace B_2 := B_2.wrote hw_335 hm_337 (by have h_ := W.one (p := 2) (q := 7) (by decide) rfl rfl; exact fun e_ => h_ (by rw [e_]; exact H_333))
            replace B_6 := B_6.wrote hw_335 hm_337 (by have h_ := W.one (p := 2) (q := 6) (by decide) rfl rfl; exact fun e_ => h_ (by rw [e_]; exact H_333))
            replace B_10 := B_10.wrote hw_335 hm_337 (by have h_ := W.one (p := 2) (q := 5) (by decide) rfl rfl; exact fun e_ => h_ (by rw [e_]; exact H_333))
            replace B_14 := B_14.wrote hw_335 hm_337 (by have h_ := W.one (p := 2) (q := 4) (by decide) rfl rfl; exact fun e_ => h_ (by rw [e_]; exact H_333))
            replace oD_98 := oD_98.wrote hw_335 trivial (by have h_ := W.one (p := 2) (q := 1) (by decide) rfl rfl; exact fun e_ => h_ (by rw [e_]; exact H_333))
            replace ol_99 := ol_99.wrote hw_335 trivial (by have h_ := W.one (p := 2) (q := 0) (by decide) rfl rfl; exact fun e_ => h_ (by rw [e_]; exact H_333))
            replace O_312 := O_312.wrote hw_335 hm_337 (fun e_ => (W.neq (p := 2) (q := 3) (by decide) rfl rfl).elim (fun h_ => absurd (Eq.trans (Eq.symm h_) H_333) (fun k_ => nomatch k_)) (fun h_ => h_ (Eq.trans H_333 e_.symm)))
            replace RD := RD.wrote hw_335 hm_337
            replace W := W.wrote hw_335 hm_337
            replace O_336 : Ow (.int .i64) 3 w_334 w.heap.size (Kx K w.heap.size [some l_99, some D_98, v_122.ownBlock, v_124.ownBlock, some b_13, some b_9, some b_5, some b_1]) v_122 ((s_.1.set x_.1.toNat x_223).set x_.1.toNat 0) (some m_20.2) := O_336
            refine R.wpList_nil ?_
            refine then_n ?_
            obtain rfl := Option.some.inj ej_325
            exact ⟨v_122, S.sub (by exact ⟨rfl, rfl, rfl, trivial⟩), W, B_2, B_6, B_10, B_14, oD_98, ol_99, O_336, O_312, RD⟩
          · intro hc
            rw [if_neg (Bool.eq_false_iff.1 hc)] at ej_325
            refine R.wp_skip ?_
            refine then_n ?_
            obtain rfl := Option.some.inj ej_325
            exact ⟨v_122, S.sub (by exact ⟨rfl, rfl, rfl, trivial⟩), W, B_2, B_6, B_10, B_14, oD_98, ol_99, O_230, O_312, RD⟩
        clear S W; rintro a w_338 ⟨v_326, S, W, B_2, B_6, B_10, B_14, oD_98, ol_99, O_327, O_312, RD⟩
        refine then_n ?_
        refine R.wp_seq ?_
        refine R.wp_region_lit ?_
        refine R.w_go S rfl (op_load (t := (.sl gt1)) (x := x0) S rfl ty24 rfl rfl rfl B_2.at_ ?_)
        clear S; intro a v_339 R_340 S
        refine R.wl_pure (l' := [(55, .int .i64 x_.1), (54, v_339), (6, .int .i64 x_.1), (4, pB b_9), (2, pB b_1)]) S tys tys_ok 1 (by kernel_rfl) ?_
        clear S; intro a S
        obtain ⟨y_341, ey_341, hb_⟩ := bindS hb_
        refine R.w_go S rfl (op_indexAddr S rfl ty24 rfl rfl rfl R_340 rfl ey_341 ?_)
        clear S; intro a p_342 R_343 H_344 S
        refine R.wl_pureK (l' := [(57, .pointer (some (p_342.add (coff gf1 0)))), (6, .int .i64 x_.1), (4, pB b_9), (2, pB b_1)]) S tys tys_ok 1 [57, 6, 4, 2] (by kernel_rfl) ?_
        clear S; intro a S
        refine R.w_go S rfl (op_load (t := (.int .i64)) (x := y_341.1) S rfl ty3 rfl rfl rfl (RepAt.add 0 (RepAt.st (t := gf1) R_343)) ?_)
        clear S; intro a v_345 R_346 S
        obtain ⟨rfl, GR_346⟩ := RepV.int R_346
        refine R.wl_pure (l' := [(7, .int .i64 y_341.1), (58, .int .i64 y_341.1), (57, .pointer (some (p_342.add (coff gf1 0)))), (6, .int .i64 x_.1), (4, pB b_9), (2, pB b_1)]) S tys tys_ok 1 (by kernel_rfl) ?_
        clear S; intro a S
        refine R.wpList_nil ?_
        refine then_n ?_
        replace S := S.sub (l' := [(7, .int .i64 y_341.1), (6, .int .i64 x_.1), (4, pB b_9), (2, pB b_1)]) (by exact ⟨rfl, rfl, rfl, rfl, trivial⟩)
        refine R.wp_seq ?_
        refine R.wp_region_lit ?_
        refine R.wl_pure (l' := [(61, .bool (y_341.1 != (-1))), (60, .bool (y_341.1 != (-1))), (59, .int .i64 y_341.1), (7, .int .i64 y_341.1), (6, .int .i64 x_.1), (4, pB b_9), (2, pB b_1)]) S tys tys_ok 3 (by kernel_rfl) ?_
        clear S; intro a S
        obtain ⟨q_347, eq_347, hb_⟩ := bindS hb_
        refine R.seg 7 (fun a_ w_ => w_338 = w_ ∧ St 81 a_ [(68, .bool q_347), (7, .int .i64 y_341.1), (6, .int .i64 x_.1), (4, pB b_9)]) ?_ ?_
        · by_cases hc : (y_341.1 != (-1)) = true
          · rw [if_pos hc] at eq_347; rw [hc] at S
            refine R.w_go S rfl (op_load (t := (.sl gt1)) (x := x0) S rfl ty24 rfl rfl rfl B_2.at_ ?_)
            clear S; intro a v_348 R_349 S
            refine R.wl_pureK (l' := [(63, .int .i64 y_341.1), (62, v_348), (61, .bool true), (7, .int .i64 y_341.1), (6, .int .i64 x_.1), (4, pB b_9)]) S tys tys_ok 1 [63, 62, 61, 7, 6, 4] (by kernel_rfl) ?_
            clear S; intro a S
            obtain ⟨y_350, ey_350, eq_347⟩ := bindS eq_347
            refine R.w_go S rfl (op_indexAddr S rfl ty24 rfl rfl rfl R_349 rfl ey_350 ?_)
            clear S; intro a p_351 R_352 H_353 S
            refine R.wl_pureK (l' := [(65, .pointer (some (p_351.add (coff gf1 3)))), (61, .bool true), (7, .int .i64 y_341.1), (6, .int .i64 x_.1), (4, pB b_9)]) S tys tys_ok 1 [65, 61, 7, 6, 4] (by kernel_rfl) ?_
            clear S; intro a S
            refine R.w_go S rfl (op_load (t := .bool) (x := y_350.2.2.2.1) S rfl ty4 rfl rfl rfl (RepAt.add 3 (RepAt.st (t := gf1) R_352)) ?_)
            clear S; intro a v_354 R_355 S
            obtain rfl := RepV.bool R_355
            refine R.wl_pureK (l' := [(68, .bool (!y_350.2.2.2.1)), (7, .int .i64 y_341.1), (6, .int .i64 x_.1), (4, pB b_9)]) S tys tys_ok 2 [68, 7, 6, 4] (by kernel_rfl) ?_
            clear S; intro a S
            obtain rfl := Option.some.inj eq_347
            refine R.wpList_nil ?_
            exact ⟨rfl, S.sub (by exact ⟨rfl, rfl, rfl, rfl, trivial⟩)⟩
          · rw [if_neg hc] at eq_347; rw [show (y_341.1 != (-1)) = false from Bool.eq_false_iff.2 hc] at S
            refine R.wl_pureK (l' := [(68, .bool false), (7, .int .i64 y_341.1), (6, .int .i64 x_.1), (4, pB b_9)]) S tys tys_ok 7 [68, 7, 6, 4] (by kernel_rfl) ?_
            clear S; intro a S
            obtain rfl := Option.some.inj eq_347
            refine R.wpList_nil ?_
            exact ⟨rfl, S.sub (by exact ⟨rfl, rfl, rfl, rfl, trivial⟩)⟩
        clear S eq_347; rintro a _ ⟨rfl, S⟩
        refine R.wpList_nil ?_
        refine then_n ?_
        obtain ⟨j_356, ej_356, hb_⟩ := bindS hb_
        refine R.wp_cut_ (fun a_ w_ => ∃ (v_357 : Value), St 81 a_ [] ∧ Wd w w_ [some l_99, some D_98, v_357.ownBlock, v_124.ownBlock, some b_13, some b_9, some b_5, some b_1] ∧ Bx (.sl gt1) 24 w_ (Kx K w.heap.size [some l_99, some D_98, v_357.ownBlock, v_124.ownBlock, some b_13, some b_9, some b_5, some b_1]) b_1 x0 ∧ Bx .bool 4 w_ (Kx K w.heap.size [some l_99, some D_98, v_357.ownBlock, v_124.ownBlock, some b_13, some b_9, some b_5, some b_1]) b_5 x1 ∧ Bx .raw 27 w_ (Kx K w.heap.size [some l_99, some D_98, v_357.ownBlock, v_124.ownBlock, some b_13, some b_9, some b_5, some b_1]) b_9 v_357 ∧ Bx .raw 53 w_ (Kx K w.heap.size [some l_99, some D_98, v_357.ownBlock, v_124.ownBlock, some b_13, some b_9, some b_5, some b_1]) b_13 v_124 ∧ Ox (.deferred (some [])) w_ D_98 ∧ Ox (rec .busy none) w_ l_99 ∧ Ow (.int .i64) 3 w_ w.heap.size (Kx K w.heap.size [some l_99, some D_98, v_357.ownBlock, v_124.ownBlock, some b_13, some b_9, some b_5, some b_1]) v_357 j_356 (some m_20.2) ∧ Ow .bool 4 w_ w.heap.size (Kx K w.heap.size [some l_99, some D_98, v_357.ownBlock, v_124.ownBlock, some b_13, some b_9, some b_5, some b_1]) v_124 (s_.2.set x_.1.toNat (decide (y_236 > t_244))) (some m_28.2) ∧ Rnd A_ [some l_99, some D_98, v_122.ownBlock, v_124.ownBlock, some b_13, some b_9, some b_5, some b_1] w_ [some l_99, some D_98, v_357.ownBlock, v_124.ownBlock, some b_13, some b_9, some b_5, some b_1]) ?_ ?_
        · refine R.wp_cond_split (S.eval (show ev _ _ = some (.bool q_347) from rfl)) ?_ ?_
          · intro hc
            rw [if_pos hc] at ej_356
            refine R.drawn (by kernel_rfl) (by kernel_rfl) ?_
            obtain ⟨y_361, ey_361, ej_356⟩ := bindS ej_356
            obtain ⟨y_369, ey_369, ej_356⟩ := bindS ej_356
            have hR : Rel (Kx K w.heap.size [some l_99, some D_98, v_326.ownBlock, v_124.ownBlock, some b_13, some b_9, some b_5, some b_1]) Bl := Bl.rel _
            refine wr_region_suf 8 [2, 2, 3, 8, 6, 6, 7, 8, 9, 10] hR [eqv (v_326), isI .i64 y_341.1, isEo (.int .i64) (Kx K w.heap.size [some l_99, some D_98, v_326.ownBlock, v_124.ownBlock, some b_13, some b_9, some b_5, some b_1]) y_361, isI .i64 y_361, eqv (v_326), isI .i64 x_.1, isEo (.int .i64) (Kx K w.heap.size [some l_99, some D_98, v_326.ownBlock, v_124.ownBlock, some b_13, some b_9, some b_5, some b_1]) y_369, isI .i64 y_369] [[], [], [(0, 69), (1, 70)], [(2, 71)], [], [], [(4, 73), (5, 74)], [(6, 75)]] (by kernel_rfl) (by rw [S.size]; kernel_rfl) (by kernel_rfl) (by kernel_rfl) (by kernel_rfl) rfl ⟨(stab_eqv _), stab_I, stab_eo, stab_I, (stab_eqv _), stab_I, stab_eo, stab_I, trivial⟩ ?_ ?_
            ·
              refine RunAll.cons (eqv (v_326)) [] rfl rfl ?_ ?_
              · intro W_ hW
                have S1 := S
                refine fill_nil S1 ?_; clear S1; intro a_ S1
                replace B_10 := B_10.step hW
                have S0 := S.defers; replace S := S1; clear S1
                refine w_go S rfl (op_load (t := .raw) (x := v_326) S rfl tyr27 rfl rfl rfl B_10.at_ ?_)
                clear S; intro a v_375 R_376 S
                have q_ := (RepV.rawEq R_376).symm; clear R_376; subst q_
                refine wpList_nil ?_
                exact RPost.mk_ S rfl S0 rfl (Below.refl _ _)
              refine RunAll.cons (isI .i64 y_341.1) [] rfl rfl ?_ ?_
              · intro W_ hW
                have S1 := S
                refine fill_nil S1 ?_; clear S1; intro a_ S1
                have S0 := S.defers; replace S := S1; clear S1
                refine wl_pure (l' := [(70, .int .i64 y_341.1), (68, .bool q_347), (7, .int .i64 y_341.1), (6, .int .i64 x_.1), (4, pB b_9)]) S tys tys_ok 1 (by kernel_rfl) ?_; clear S; intro a S
                refine wpList_nil ?_
                exact RPost.mk_ S rfl S0 ⟨rfl, GR_346⟩ (Below.refl _ _)
              refine RunAll.cons (isEo (.int .i64) (Kx K w.heap.size [some l_99, some D_98, v_326.ownBlock, v_124.ownBlock, some b_13, some b_9, some b_5, some b_1]) y_361) [(eqv (v_326), 69), (isI .i64 y_341.1, 70)] rfl rfl ?_ ?_
              · intro W_ hW
                have S1 := S
                intro v_378 hF_377; obtain rfl : v_326 = v_378 := Eq.symm hF_377
                replace S1 := S1.put (by decide : 69 < 81) (v_326)
                rintro _ ⟨rfl, hF_379⟩
                replace S1 := S1.put (by decide : 70 < 81) (.int .i64 y_341.1)
                refine fill_nil S1 ?_; clear S1; intro a_ S1
                replace O_327 := O_327.step hW
                replace W := W.step hW
                have S0 := S.defers; replace S := S1; clear S1
                refine w_go S rfl (op_indexAddr_own S rfl ty27 rfl rfl rfl O_327 rfl ey_361 ?_)
                clear S; intro a g_381 H_383 R_382 S
                refine wpList_nil ?_
                exact RPost.mk_ S rfl S0 ⟨_, rfl, R_382, W.ownlt (o := v_326.ownBlock) (List.mem_of_getElem? (i := 2) rfl) H_383⟩ (Below.refl _ _)
              refine RunAll.cons (isI .i64 y_361) [(isEo (.int .i64) (Kx K w.heap.size [some l_99, some D_98, v_326.ownBlock, v_124.ownBlock, some b_13, some b_9, some b_5, some b_1]) y_361, 71)] rfl rfl ?_ ?_
              · intro W_ hW
                have S1 := S
                rintro _ ⟨p_386, rfl, R_387, H_388⟩
                replace S1 := S1.put (by decide : 71 < 81) (.pointer (some p_386))
                refine fill_nil S1 ?_; clear S1; intro a_ S1
                have S0 := S.defers; replace S := S1; clear S1
                refine w_go S rfl (op_load (t := (.int .i64)) (x := y_361) S rfl ty3 rfl rfl rfl R_387 ?_)
                clear S; intro a v_389 R_390 S
                obtain ⟨rfl, GR_390⟩ := RepV.int R_390
                refine wpList_nil ?_
                exact RPost.mk_ S rfl S0 ⟨rfl, GR_390⟩ (Below.refl _ _)
              refine RunAll.cons (eqv (v_326)) [] rfl rfl ?_ ?_
              · intro W_ hW
                have S1 := S
                refine fill_nil S1 ?_; clear S1; intro a_ S1
                replace B_10 := B_10.step hW
                have S0 := S.defers; replace S := S1; clear S1
                refine w_go S rfl (op_load (t := .raw) (x := v_326) S rfl tyr27 rfl rfl rfl B_10.at_ ?_)
                clear S; intro a v_391 R_392 S
                have q_ := (RepV.rawEq R_392).symm; clear R_392; subst q_
                refine wpList_nil ?_
                exact RPost.mk_ S rfl S0 rfl (Below.refl _ _)
              refine RunAll.cons (isI .i64 x_.1) [] rfl rfl ?_ ?_
              · intro W_ hW
                have S1 := S
                refine fill_nil S1 ?_; clear S1; intro a_ S1
                have S0 := S.defers; replace S := S1; clear S1
                refine wl_pure (l' := [(74, .int .i64 x_.1), (68, .bool q_347), (7, .int .i64 y_341.1), (6, .int .i64 x_.1), (4, pB b_9)]) S tys tys_ok 1 (by kernel_rfl) ?_; clear S; intro a S
                refine wpList_nil ?_
                exact RPost.mk_ S rfl S0 ⟨rfl, G_126⟩ (Below.refl _ _)
              refine RunAll.cons (isEo (.int .i64) (Kx K w.heap.size [some l_99, some D_98, v_326.ownBlock, v_124.ownBlock, some b_13, some b_9, some b_5, some b_1]) y_369) [(eqv (v_326), 73), (isI .i64 x_.1, 74)] rfl rfl ?_ ?_
              · intro W_ hW
                have S1 := S
                intro v_394 hF_393; obtain rfl : v_326 = v_394 := Eq.symm hF_393
                replace S1 := S1.put (by decide : 73 < 81) (v_326)
                rintro _ ⟨rfl, hF_395⟩
                replace S1 := S1.put (by decide : 74 < 81) (.int .i64 x_.1)
                refine fill_nil S1 ?_; clear S1; intro a_ S1
                replace O_327 := O_327.step hW
                replace W := W.step hW
                have S0 := S.defers; replace S := S1; clear S1
                refine w_go S rfl (op_indexAddr_own S rfl ty27 rfl rfl rfl O_327 rfl ey_369 ?_)
                clear S; intro a g_397 H_399 R_398 S
                refine wpList_nil ?_
                exact RPost.mk_ S rfl S0 ⟨_, rfl, R_398, W.ownlt (o := v_326.ownBlock) (List.mem_of_getElem? (i := 2) rfl) H_399⟩ (Below.refl _ _)
              refine RunAll.cons (isI .i64 y_369) [(isEo (.int .i64) (Kx K w.heap.size [some l_99, some D_98, v_326.ownBlock, v_124.ownBlock, some b_13, some b_9, some b_5, some b_1]) y_369, 75)] rfl rfl ?_ ?_
              · intro W_ hW
                have S1 := S
                rintro _ ⟨p_402, rfl, R_403, H_404⟩
                replace S1 := S1.put (by decide : 75 < 81) (.pointer (some p_402))
                refine fill_nil S1 ?_; clear S1; intro a_ S1
                have S0 := S.defers; replace S := S1; clear S1
                refine w_go S rfl (op_load (t := (.int .i64)) (x := y_369) S rfl ty3 rfl rfl rfl R_403 ?_)
                clear S; intro a v_405 R_406 S
                obtain ⟨rfl, GR_406⟩ := RepV.int R_406
                refine wpList_nil ?_
                exact RPost.mk_ S rfl S0 ⟨rfl, GR_406⟩ (Below.refl _ _)
              exact trivial
            intro w_407 hb_408
            refine EndE.some_ rfl ?_
            intro v_410 hF_409; obtain rfl : v_326 = v_410 := Eq.symm hF_409
            replace S := S.put (by decide : 69 < 81) (v_326)
            refine EndE.some_ rfl ?_
            rintro _ ⟨rfl, hF_411⟩
            replace S := S.put (by decide : 70 < 81) (.int .i64 y_341.1)
            refine EndE.some_ rfl ?_
            rintro _ ⟨p_415, rfl, R_416, H_417⟩
            replace S := S.put (by decide : 71 < 81) (.pointer (some p_415))
            refine EndE.some_ rfl ?_
            rintro _ ⟨rfl, hF_418⟩
            replace S := S.put (by decide : 72 < 81) (.int .i64 y_361)
            refine EndE.some_ rfl ?_
            intro v_421 hF_420; obtain rfl : v_326 = v_421 := Eq.symm hF_420
            replace S := S.put (by decide : 73 < 81) (v_326)
            refine EndE.some_ rfl ?_
            rintro _ ⟨rfl, hF_422⟩
            replace S := S.put (by decide : 74 < 81) (.int .i64 x_.1)
            refine EndE.some_ rfl ?_
            rintro _ ⟨p_426, rfl, R_427, H_428⟩
            replace S := S.put (by decide : 75 < 81) (.pointer (some p_426))
            refine EndE.some_ rfl ?_
            rintro _ ⟨rfl, hF_429⟩
            replace S := S.put (by decide : 76 < 81) (.int .i64 y_369)
            refine endE_nil S ?_; clear S; intro a S
            replace B_2 := B_2.step hb_408
            replace B_6 := B_6.step hb_408
            replace B_10 := B_10.step hb_408
            replace B_14 := B_14.step hb_408
            replace oD_98 := oD_98.step hb_408
            replace ol_99 := ol_99.step hb_408
            replace O_327 := O_327.step hb_408
            replace O_312 := O_312.step hb_408
            replace RD := RD.step hb_408
            replace W := W.step hb_408
            obtain ⟨x_431, ex_431, ej_356⟩ := bindS ej_356
            refine w_go S rfl (op_arith S .i64 (y_361 + y_369) rfl (.inl rfl) rfl rfl rfl rfl ex_431 ?_)
            clear S; intro a S
            obtain ⟨y_432, ey_432, ej_356⟩ := bindS ej_356
            refine w_go S rfl (op_indexAddr_own S rfl ty27 rfl rfl rfl O_327 rfl ey_432 ?_)
            clear S; intro a g_433 H_435 R_434 S
            refine w_go S rfl (op_store_own (t' := (.int .i64)) S rfl rfl ty3 rfl rfl rfl O_327 H_435 2 rfl (idx_some ey_432).2.1 Ln.whole ((RepV.mkInt (ckI_some ex_431).2.1) : RepV (.int .i64) w_407 (Kx K w.heap.size [some l_99, some D_98, v_326.ownBlock, v_124.ownBlock, some b_13, some b_9, some b_5, some b_1]) _ x_431) ?_)
            intro w_436 hw_437 hm_439 O_438
            replace B_2 := B_2.wrote hw_437 hm_439 (by have h_ := W.one (p := 2) (q := 7) (by decide) rfl rfl; exact fun e_ => h_ (by rw [e_]; exact H_435))
            replace B_6 := B_6.wrote hw_437 hm_439 (by have h_ := W.one (p := 2) (q := 6) (by decide) rfl rfl; exact fun e_ => h_ (by rw [e_]; exact H_435))
            replace B_10 := B_10.wrote hw_437 hm_439 (by have h_ := W.one (p := 2) (q := 5) (by decide) rfl rfl; exact fun e_ => h_ (by rw [e_]; exact H_435))
            replace B_14 := B_14.wrote hw_437 hm_439 (by have h_ := W.one (p := 2) (q := 4) (by decide) rfl rfl; exact fun e_ => h_ (by rw [e_]; exact H_435))
            replace oD_98 := oD_98.wrote hw_437 trivial (by have h_ := W.one (p := 2) (q := 1) (by decide) rfl rfl; exact fun e_ => h_ (by rw [e_]; exact H_435))
            replace ol_99 := ol_99.wrote hw_437 trivial (by have h_ := W.one (p := 2) (q := 0) (by decide) rfl rfl; exact fun e_ => h_ (by rw [e_]; exact H_435))
            replace O_312 := O_312.wrote hw_437 hm_439 (fun e_ => (W.neq (p := 2) (q := 3) (by decide) rfl rfl).elim (fun h_ => absurd (Eq.trans (Eq.symm h_) H_435) (fun k_ => nomatch k_)) (fun h_ => h_ (Eq.trans H_435 e_.symm)))
            replace RD := RD.wrote hw_437 hm_439
            replace W := W.wrote hw_437 hm_439
            replace O_438 : Ow (.int .i64) 3 w_436 w.heap.size (Kx K w.heap.size [some l_99, some D_98, v_326.ownBlock, v_124.ownBlock, some b_13, some b_9, some b_5, some b_1]) v_326 (j_325.set y_341.1.toNat x_431) (some m_20.2) := O_438
            refine wpList_nil ?_
            refine then_n ?_
            obtain rfl := Option.some.inj ej_356
            exact ⟨v_326, S.sub trivial, W, B_2, B_6, B_10, B_14, oD_98, ol_99, O_438, O_312, RD⟩
          · intro hc
            rw [if_neg (Bool.eq_false_iff.1 hc)] at ej_356
            refine R.wp_skip ?_
            refine then_n ?_
            obtain rfl := Option.some.inj ej_356
            exact ⟨v_326, S.sub trivial, W, B_2, B_6, B_10, B_14, oD_98, ol_99, O_327, O_312, RD⟩
        clear S W; rintro a w_440 ⟨v_357, S, W, B_2, B_6, B_10, B_14, oD_98, ol_99, O_358, O_312, RD⟩
        refine blk_n ?_
        obtain rfl := Option.some.inj hb_
        refine R.end_n hrec ol_99 ?_; intro w_441 hN_ ol_99
        replace B_2 := B_2.nc hN_
        replace B_6 := B_6.nc hN_
        replace B_10 := B_10.nc hN_
        replace B_14 := B_14.nc hN_
        replace oD_98 := oD_98.nc hN_ (W.bne (p := 1) (q := 0) (by decide) rfl rfl)
        replace O_358 := O_358.nc hN_
        replace O_312 := O_312.nc hN_
        replace RD := RD.nc hN_ (by simp)
        replace W := W.nc hN_ (by simp)
        exact ⟨_, rfl, ⟨0, _, v_357, v_124, rfl, by decide, rfl, W, B_2, B_6, B_10, B_14, oD_98, O_358, O_312, ol_99⟩, RD.yst W⟩
    · rintro _ w_442 ⟨hv_, LO_, hJ_⟩; refine ⟨hv_, ?_⟩; clear S W
      obtain ⟨k_, s_, v_122, v_124, e2_, hk_, rfl, W, B_2, B_6, B_10, B_14, oD_98, O_123, O_125, ol_99⟩ := hJ_; subst e2_; have S := S0.mark (D := D_98)
      rcases k_ with _ | k_
      ·
        replace ol_99 : Ox (rec .ready none) w_442 l_99 := ol_99
        refine RP.done hrec ol_99 ?_; intro w_443 hN_
        replace B_2 := B_2.nc hN_
        replace B_6 := B_6.nc hN_
        replace B_10 := B_10.nc hN_
        replace B_14 := B_14.nc hN_
        replace oD_98 := oD_98.nc hN_ (W.bne (p := 1) (q := 0) (by decide) rfl rfl)
        replace O_123 := O_123.nc hN_
        replace O_125 := O_125.nc hN_
        replace W := W.nc hN_ (by simp)
        replace S : StD [markD D_98] 81 _ [(5, pB b_13), (4, pB b_9), (3, pB b_5), (2, pB b_1)] := S.sub (by exact ⟨rfl, rfl, rfl, rfl, trivial⟩)
        refine blk_n ?_
        refine then_n ?_
        exact ⟨D_98, l_99, ⟨v_122, v_124, S.sub (by exact ⟨rfl, rfl, trivial⟩), W, B_2, B_6, B_10, B_14, oD_98, O_123, O_125⟩⟩
      · exact absurd hk_ (by omega)
  clear S W; rintro a w_444 ⟨D_98, l_99, v_116, v_118, S, W, B_2, B_6, B_10, B_14, oD_98, O_117, O_119⟩
  refine then_n ?_
  refine R.wp_seq ?_
  refine R.drawn (by kernel_rfl) (by kernel_rfl) ?_
  have hbL_ : some b_9 ∈ [some l_99, some D_98, v_116.ownBlock, v_118.ownBlock, some b_13, some b_9, some b_5, some b_1] := by simp
  skip
  have ne_b_1 : b_1 ≠ b_9 := W.bne (p := 7) (q := 5) (by decide) rfl rfl
  have ne_b_5 : b_5 ≠ b_9 := W.bne (p := 6) (q := 5) (by decide) rfl rfl
  have ne_b_13 : b_13 ≠ b_9 := W.bne (p := 4) (q := 5) (by decide) rfl rfl
  have ne_D_98 : D_98 ≠ b_9 := W.bne (p := 1) (q := 5) (by decide) rfl rfl
  have ne_O_117 : v_116.ownBlock ≠ some b_9 := W.one (p := 2) (q := 5) (by decide) rfl rfl
  have ne_O_119 : v_118.ownBlock ≠ some b_9 := W.one (p := 3) (q := 5) (by decide) rfl rfl
  have hlt_ : b_9 < w_444.heap.size := (W.own _ hbL_).2
  refine wr_region_sto 3 [3, 3, 3] w [] [some l_99, some D_98, v_116.ownBlock, v_118.ownBlock, some b_13, some b_9, some b_5, some b_1] 2 b_9 (PhB b_9 .raw 27 K w.heap.size [] [some l_99, some D_98, v_116.ownBlock, v_118.ownBlock, some b_13, some b_9, some b_5, some b_1] v_116) (PhB.stab hbL_) [eqvG (v_116), eqvG (v_118), isStG 2] [[], [], [(0, 79)]] (by kernel_rfl) (by rw [S.size]; kernel_rfl) (by kernel_rfl) (by kernel_rfl) (by kernel_rfl) rfl ⟨(stabGs_eqv _), (stabGs_eqv _), stabGs_st, trivial⟩ ?_ ?_
  ·
    refine RunAllG.cons (eqvG (v_116)) [] rfl rfl ?_ ?_
    · intro M_ W_ hW hU_ hV_
      have S1 := S
      refine fillG_nil S1 ?_; clear S1; intro a_ S1
      replace B_10 : Bx .raw 27 W_ (Kx K w.heap.size (lm [] [some l_99, some D_98, v_116.ownBlock, v_118.ownBlock, some b_13, some b_9, some b_5, some b_1] M_)) b_9 v_116 := Bx.gs (g := (fun _ => none, w_444)) (Bx.lm0 B_10) hW hbL_ (fun _ => .inr (hV_ 12 2 (by kernel_rfl)))
      replace oD_98 := Ox.gs (g := (fun _ => none, w_444)) oD_98 hW ne_D_98
      have S0 := S.defers; replace S := S1; clear S1
      refine w_go S rfl (op_load (t := .raw) (x := v_116) S rfl tyr27 rfl rfl rfl B_10.at_ ?_)
      clear S; intro a v_449 R_450 S
      have q_ := (RepV.rawEq R_450).symm; clear R_450; subst q_
      refine wpList_nil ?_
      exact RPostS.mk_ S rfl S0 rfl (Below.refl _ _)
    refine RunAllG.cons (eqvG (v_118)) [] rfl rfl ?_ ?_
    · intro M_ W_ hW hU_ hV_
      have S1 := S
      refine fillG_nil S1 ?_; clear S1; intro a_ S1
      replace B_14 : Bx .raw 53 W_ (Kx K w.heap.size (lm [] [some l_99, some D_98, v_116.ownBlock, v_118.ownBlock, some b_13, some b_9, some b_5, some b_1] M_)) b_13 v_118 := Bx.gs (g := (fun _ => none, w_444)) (Bx.lm0 B_14) hW hbL_ (fun e_ => absurd e_ ne_b_13)
      replace oD_98 := Ox.gs (g := (fun _ => none, w_444)) oD_98 hW ne_D_98
      have S0 := S.defers; replace S := S1; clear S1
      refine w_go S rfl (op_load (t := .raw) (x := v_118) S rfl tyr53 rfl rfl rfl B_14.at_ ?_)
      clear S; intro a v_451 R_452 S
      have q_ := (RepV.rawEq R_452).symm; clear R_452; subst q_
      refine wpList_nil ?_
      exact RPostS.mk_ S rfl S0 rfl (Below.refl _ _)
    refine RunAllG.cons (isStG 2) [(eqvG (v_116), 79)] rfl rfl ?_ ?_
    · intro M_ W_ hW hU_ hV_
      have S1 := S
      intro v_455 hF_454; obtain rfl : v_116 = v_455 := Eq.symm hF_454
      replace S1 := S1.put (by decide : 79 < 81) (v_116)
      refine fillG_nil S1 ?_; clear S1; intro a_ S1
      replace B_10 : Bx .raw 27 W_ (Kx K w.heap.size (lm [] [some l_99, some D_98, v_116.ownBlock, v_118.ownBlock, some b_13, some b_9, some b_5, some b_1] M_)) b_9 v_116 := Bx.gs (g := (fun _ => none, w_444)) (Bx.lm0 B_10) hW hbL_ (fun _ => .inr hU_)
      replace oD_98 := Ox.gs (g := (fun _ => none, w_444)) oD_98 hW ne_D_98
      replace O_117 : Ow (.int .i64) 3 W_ w.heap.size (Kx K w.heap.size (lm [] [some l_99, some D_98, v_116.ownBlock, v_118.ownBlock, some b_13, some b_9, some b_5, some b_1] M_)) v_116 y_115.2.1 (some m_20.2) := Ow.gs (g := (fun _ => none, w_444)) (Ow.lm0 O_117) hW hbL_ (fun e_ => absurd e_ ne_O_117)
      have S0 := S.defers; replace S := S1; clear S1
      refine w_go S rfl (op_store (t' := .raw) S rfl rfl tyr27 rfl rfl rfl B_10 (lm_right hbL_) Ln.whole O_117.raw ?_)
      intro w_456 hw_457 B_
      replace B_10 : Bx .raw 27 w_456 (Kx K w.heap.size (lm [] [some l_99, some D_98, v_116.ownBlock, v_118.ownBlock, some b_13, some b_9, some b_5, some b_1] M_)) b_9 v_116 := B_; clear B_
      refine wpList_nil ?_
      exact RPostS.sto S S0 hw_457 hU_ (by decide) (lm_right hbL_) (show Bx .raw 27 w_456 (Kx K w.heap.size (lm [] [some l_99, some D_98, v_116.ownBlock, v_118.ownBlock, some b_13, some b_9, some b_5, some b_1] (gupd M_ 2 none))) b_9 v_116 by rw [lm_oth (by decide)]; exact B_10)
    exact trivial
  intro M_ w_458 hb_459
  refine EndEG.some_ rfl ?_
  intro v_462 hF_461; obtain rfl : v_116 = v_462 := Eq.symm hF_461
  replace S := S.put (by decide : 79 < 81) (v_116)
  refine EndEG.some_ rfl ?_
  intro v_465 hF_464; obtain rfl : v_118 = v_465 := Eq.symm hF_464
  replace S := S.put (by decide : 80 < 81) (v_118)
  refine EndEG.none_ rfl ?_; intro hst_
  refine endEG_nil S ?_; clear S; intro a S
  replace hst_ : M_ 2 = some none := hst_
  have hF_ := Gs.sto hb_459 rfl (by show M_ 2 ≠ none; rw [hst_]; simp)
  replace B_2 : Bx (.sl gt1) 24 w_458 (Kx K w.heap.size (lm [] [some l_99, some D_98, v_116.ownBlock, v_118.ownBlock, some b_13, some b_9, some b_5, some b_1] M_)) b_1 x0 := Bx.gs (g := (fun _ => none, w_444)) (Bx.lm0 B_2) hb_459 hbL_ (fun e_ => absurd e_ ne_b_1)
  replace B_6 : Bx .bool 4 w_458 (Kx K w.heap.size (lm [] [some l_99, some D_98, v_116.ownBlock, v_118.ownBlock, some b_13, some b_9, some b_5, some b_1] M_)) b_5 x1 := Bx.gs (g := (fun _ => none, w_444)) (Bx.lm0 B_6) hb_459 hbL_ (fun e_ => absurd e_ ne_b_5)
  replace B_10 : Bx .raw 27 w_458 (Kx K w.heap.size (lm [] [some l_99, some D_98, v_116.ownBlock, v_118.ownBlock, some b_13, some b_9, some b_5, some b_1] M_)) b_9 v_116 := hF_
  replace B_14 : Bx .raw 53 w_458 (Kx K w.heap.size (lm [] [some l_99, some D_98, v_116.ownBlock, v_118.ownBlock, some b_13, some b_9, some b_5, some b_1] M_)) b_13 v_118 := Bx.gs (g := (fun _ => none, w_444)) (Bx.lm0 B_14) hb_459 hbL_ (fun e_ => absurd e_ ne_b_13)
  replace oD_98 := Ox.gs (g := (fun _ => none, w_444)) oD_98 hb_459 ne_D_98
  replace O_117 : Ow (.int .i64) 3 w_458 w.heap.size (Kx K w.heap.size (lm [] [some l_99, some D_98, v_116.ownBlock, v_118.ownBlock, some b_13, some b_9, some b_5, some b_1] M_)) v_116 y_115.2.1 (some m_20.2) := Ow.gs (g := (fun _ => none, w_444)) (Ow.lm0 O_117) hb_459 hbL_ (fun e_ => absurd e_ ne_O_117)
  replace O_119 : Ow .bool 4 w_458 w.heap.size (Kx K w.heap.size (lm [] [some l_99, some D_98, v_116.ownBlock, v_118.ownBlock, some b_13, some b_9, some b_5, some b_1] M_)) v_118 y_115.2.2 (some m_28.2) := Ow.gs (g := (fun _ => none, w_444)) (Ow.lm0 O_119) hb_459 hbL_ (fun e_ => absurd e_ ne_O_119)
  replace W : Wd w w_458 (lm [] [some l_99, some D_98, v_116.ownBlock, v_118.ownBlock, some b_13, some b_9, some b_5, some b_1] M_) := Gs.wd' hb_459 (Wd.lm0 _ W)
  have eL_ : lm [] [some l_99, some D_98, v_116.ownBlock, v_118.ownBlock, some b_13, some b_9, some b_5, some b_1] M_ = [some l_99, some D_98, v_116.ownBlock, v_118.ownBlock, some b_13, some b_9, some b_5, some b_1] := by simp [lm, ]
  rw [eL_] at W
  rw [eL_] at B_2
  rw [eL_] at B_6
  rw [eL_] at B_10
  rw [eL_] at B_14
  rw [eL_] at O_117
  rw [eL_] at O_119
  clear eL_
  replace S := S.sub (l' := [(80, v_118), (79, v_116), (5, pB b_13), (4, pB b_9)]) (by exact ⟨rfl, rfl, rfl, rfl, trivial⟩)
  refine w_go S rfl (op_store (t' := .raw) S rfl rfl tyr53 rfl rfl rfl B_14 (by simp) Ln.whole O_119.raw ?_)
  intro w_466 hw_467 B_
  replace B_2 := B_2.wrote hw_467 (by simp) (W.bne (p := 7) (q := 4) (by decide) rfl rfl)
  replace B_6 := B_6.wrote hw_467 (by simp) (W.bne (p := 6) (q := 4) (by decide) rfl rfl)
  replace B_10 := B_10.wrote hw_467 (by simp) (W.bne (p := 5) (q := 4) (by decide) rfl rfl)
  replace oD_98 := oD_98.wrote hw_467 (by simp) (W.bne (p := 1) (q := 4) (by decide) rfl rfl)
  replace O_117 := O_117.wrote hw_467 (by simp) (W.one (p := 2) (q := 4) (by decide) rfl rfl)
  replace O_119 := O_119.wrote hw_467 (by simp) (W.one (p := 3) (q := 4) (by decide) rfl rfl)
  replace W := W.wrote hw_467 (by simp)
  replace B_14 : Bx .raw 53 w_466 (Kx K w.heap.size [some l_99, some D_98, v_116.ownBlock, v_118.ownBlock, some b_13, some b_9, some b_5, some b_1]) b_13 v_118 := B_; clear B_
  refine wpList_nil ?_
  refine then_n ?_
  replace S := S.sub (l' := [(5, pB b_13), (4, pB b_9)]) (by exact ⟨rfl, rfl, trivial⟩)
  refine R.wp_ret ?_
  refine R.leave1 S oD_98 ?_ (by simp)
  clear S; intro a wL hN_ S
  replace B_2 := B_2.nc hN_
  replace B_6 := B_6.nc hN_
  replace B_10 := B_10.nc hN_
  replace B_14 := B_14.nc hN_
  replace O_117 := O_117.nc hN_
  replace O_119 := O_119.nc hN_
  replace W := W.nc hN_ (by simp)
  obtain ⟨v_468, hr_469, R_470⟩ := res_cell (P := Try.prog) (T := 27) (t := .raw) (x := v_116) S (s := 4) rfl tyr27 B_10.at_
  have q_ := (RepV.rawEq R_470).symm; clear R_470; subst q_
  obtain ⟨v_471, hr_472, R_473⟩ := res_cell (P := Try.prog) (T := 53) (t := .raw) (x := v_118) S (s := 5) rfl tyr53 B_14.at_
  have q_ := (RepV.rawEq R_473).symm; clear R_473; subst q_
  replace B_2 : Bx (.sl gt1) 24 wL (Kx K w.heap.size [v_118.ownBlock, some l_99, some D_98, v_116.ownBlock, some b_13, some b_9, some b_5, some b_1]) b_1 x0 := B_2.mv 3 rfl
  replace B_6 : Bx .bool 4 wL (Kx K w.heap.size [v_118.ownBlock, some l_99, some D_98, v_116.ownBlock, some b_13, some b_9, some b_5, some b_1]) b_5 x1 := B_6.mv 3 rfl
  replace B_10 : Bx .raw 27 wL (Kx K w.heap.size [v_118.ownBlock, some l_99, some D_98, v_116.ownBlock, some b_13, some b_9, some b_5, some b_1]) b_9 v_116 := B_10.mv 3 rfl
  replace B_14 : Bx .raw 53 wL (Kx K w.heap.size [v_118.ownBlock, some l_99, some D_98, v_116.ownBlock, some b_13, some b_9, some b_5, some b_1]) b_13 v_118 := B_14.mv 3 rfl
  replace O_117 : Ow (.int .i64) 3 wL w.heap.size (Kx K w.heap.size [v_118.ownBlock, some l_99, some D_98, v_116.ownBlock, some b_13, some b_9, some b_5, some b_1]) v_116 y_115.2.1 (some m_20.2) := O_117.mv 3 rfl
  replace O_119 : Ow .bool 4 wL w.heap.size (Kx K w.heap.size [v_118.ownBlock, some l_99, some D_98, v_116.ownBlock, some b_13, some b_9, some b_5, some b_1]) v_118 y_115.2.2 (some m_28.2) := O_119.mv 3 rfl
  replace W : Wd w wL [v_118.ownBlock, some l_99, some D_98, v_116.ownBlock, some b_13, some b_9, some b_5, some b_1] := W.mv 3 rfl
  replace B_2 : Bx (.sl gt1) 24 wL (Kx K w.heap.size [v_116.ownBlock, v_118.ownBlock, some l_99, some D_98, some b_13, some b_9, some b_5, some b_1]) b_1 x0 := B_2.mv 3 rfl
  replace B_6 : Bx .bool 4 wL (Kx K w.heap.size [v_116.ownBlock, v_118.ownBlock, some l_99, some D_98, some b_13, some b_9, some b_5, some b_1]) b_5 x1 := B_6.mv 3 rfl
  replace B_10 : Bx .raw 27 wL (Kx K w.heap.size [v_116.ownBlock, v_118.ownBlock, some l_99, some D_98, some b_13, some b_9, some b_5, some b_1]) b_9 v_116 := B_10.mv 3 rfl
  replace B_14 : Bx .raw 53 wL (Kx K w.heap.size [v_116.ownBlock, v_118.ownBlock, some l_99, some D_98, some b_13, some b_9, some b_5, some b_1]) b_13 v_118 := B_14.mv 3 rfl
  replace O_117 : Ow (.int .i64) 3 wL w.heap.size (Kx K w.heap.size [v_116.ownBlock, v_118.ownBlock, some l_99, some D_98, some b_13, some b_9, some b_5, some b_1]) v_116 y_115.2.1 (some m_20.2) := O_117.mv 3 rfl
  replace O_119 : Ow .bool 4 wL w.heap.size (Kx K w.heap.size [v_116.ownBlock, v_118.ownBlock, some l_99, some D_98, some b_13, some b_9, some b_5, some b_1]) v_118 y_115.2.2 (some m_28.2) := O_119.mv 3 rfl
  replace W : Wd w wL [v_116.ownBlock, v_118.ownBlock, some l_99, some D_98, some b_13, some b_9, some b_5, some b_1] := W.mv 3 rfl
  obtain rfl := Option.some.inj h
  exact b_res2 S rfl hr_469 hr_472 ⟨_, _, rfl, Ow.fr [v_116.ownBlock, v_118.ownBlock] [some l_99, some D_98, some b_13, some b_9, some b_5, some b_1] O_117, Ow.fr [v_116.ownBlock, v_118.ownBlock] [some l_99, some D_98, some b_13, some b_9, some b_5, some b_1] O_119, Wd.front (P := [v_116.ownBlock, v_118.ownBlock]) (LO := [some l_99, some D_98, some b_13, some b_9, some b_5, some b_1]) W⟩
theorem cb27 : callB Try.prog 27 = true := by kernel_rfl
def p14 (n : Nat) (x0 : Sl (Int × Int × Bool × Bool × Bool × Bool × Int)) : Option ((Sl (Int)) × (Int)) :=
  (p17 n x0).bind fun t_1 =>
  if (t_1 != 0) then (some ((⟨([] : List (Int)), some 0⟩ : Sl (Int)), t_1)) else (p27 n x0 false).bind fun t_7 => some ((⟨t_7.1.xs, t_7.1.cap⟩ : Sl (Int)), 0)
set_option maxHeartbeats 4000000 in
set_option maxRecDepth 100000 in
/-- plugboard/powers.Loads -/
theorem c14 (K : Nat → Prop) (n : Nat) (w : World) (x0 : Sl (Int × Int × Bool × Bool × Bool × Bool × Int)) (v0 : Value) (R0 : RepV (.sl gt1) w K v0 x0) {r : (Sl (Int)) × (Int)} (h : p14 n x0 = some r) :
    Calls Try.prog 14 #[v0] w (fun e_ w_ => ∃ v0_ v1_ : Value, e_ = .returned (.tuple #[v0_, v1_]) ∧ Ow (.int .i64) 3 w_ w.heap.size (Kx K w.heap.size [v0_.ownBlock]) v0_ r.1.xs r.1.cap ∧ RepV (.int .i64) w_ (Kx K w.heap.size [v0_.ownBlock]) v1_ r.2 ∧ Below w.heap.size w w_) := by
  refine enter (args := [v0]) Try.func14 rfl 18 rfl rfl fun a S => ?_
  have W := Wd.start w
  replace R0 := R0.arg
  unfold p14 at h
  replace S : St 18 a [(0, v0)] := S
  refine wp_seq ?_
  refine wp_region_lit ?_
  refine wl_pure (l' := [(3, .int .i64 0), (2, .slice .none 0 0), (0, v0)]) S tys tys_ok 2 (by kernel_rfl) ?_
  clear S; intro a S
  refine wpList_nil ?_
  refine then_n ?_
  replace S := S.sub (l' := [(0, v0)]) (by exact ⟨rfl, trivial⟩)
  refine wp_seq ?_
  refine wp_seq ?_
  refine wp_region_lit ?_
  refine wl_pure (l' := [(7, v0), (0, v0)]) S tys tys_ok 1 (by kernel_rfl) ?_
  clear S; intro a S
  obtain ⟨t_1, et_1, h⟩ := bindS h
  refine w_go S rfl (op_call (vs := [v0]) S rfl cb17 rfl rfl rfl (c17 (Kx K w.heap.size []) n w x0 _ R0 et_1) ?_)
  rintro _ w_5 ⟨v_2, rfl, R_3, hb_4⟩; refine ⟨_, rfl, ?_⟩
  replace R_3 := RepV.back R_3 W
  clear S; intro a S
  replace R0 := R0.step hb_4
  replace W := W.step hb_4
  obtain ⟨rfl, GR_3⟩ := RepV.int R_3
  refine wl_pure (l' := [(4, .int .i64 t_1), (8, .int .i64 t_1), (7, v0), (0, v0)]) S tys tys_ok 1 (by kernel_rfl) ?_
  clear S; intro a S
  refine wpList_nil ?_
  refine then_n ?_
  replace S := S.sub (l' := [(4, .int .i64 t_1), (0, v0)]) (by exact ⟨rfl, rfl, trivial⟩)
  refine wp_seq ?_
  refine wp_region_lit ?_
  refine wl_pure (l' := [(10, .bool (t_1 != 0)), (9, .int .i64 t_1), (4, .int .i64 t_1), (0, v0)]) S tys tys_ok 2 (by kernel_rfl) ?_
  clear S; intro a S
  refine wpList_nil ?_
  refine then_n ?_
  replace S := S.sub (l' := [(10, .bool (t_1 != 0)), (4, .int .i64 t_1), (0, v0)]) (by exact ⟨rfl, rfl, rfl, trivial⟩)
  refine wp_cond_split (S.eval (show ev _ _ = some (.bool (t_1 != 0)) from rfl)) ?_ ?_
  · intro hc
    rw [if_pos hc] at h
    refine wp_seq ?_
    refine wp_region_lit ?_
    refine wl_pureK (l' := [(3, .int .i64 t_1), (2, .slice .none 0 0)]) S tys tys_ok 3 [3, 2] (by kernel_rfl) ?_
    clear S; intro a S
    refine wpList_nil ?_
    refine then_n ?_
    refine wp_ret ?_
    refine then_r ?_
    replace W := W.more
    have O_6 : Ow (.int .i64) 3 w_5 w.heap.size (Kx K w.heap.size [.none]) (.slice .none 0 0) ([] : List (Int)) (some 0) := Ow.nil
    obtain rfl := Option.some.inj h
    exact b_ret2 S rfl rfl rfl ⟨_, _, rfl, (O_6.lessO 0 rfl), (RepV.mkInt GR_3), W.below⟩
  · intro hc
    rw [if_neg (Bool.eq_false_iff.1 hc)] at h
    refine wp_skip ?_
    refine then_n ?_
    replace S := S.sub (l' := [(0, v0)]) (by exact ⟨rfl, trivial⟩)
    refine wp_seq ?_
    refine wp_region_lit ?_
    refine wl_pure (l' := [(13, v0), (0, v0)]) S tys tys_ok 1 (by kernel_rfl) ?_
    clear S; intro a S
    obtain ⟨t_7, et_7, h⟩ := bindS h
    refine w_go S rfl (op_call (vs := [v0, .bool false]) S rfl cb27 rfl rfl rfl (c27 (Kx K w.heap.size []) n w_5 x0 _ R0 false et_7) ?_)
    rintro _ w_13 ⟨v_8, v_9, rfl, R_10, R_11, hb_12⟩; refine ⟨_, rfl, ?_⟩
    have hbhb_12 := hb_12.below
    replace R_10 := Ow.backW R_10 W
    replace R_11 := Ow.backW R_11 W
    clear S; intro a S
    replace R0 := R0.newW hb_12
    replace W : Wd w w_13 [v_8.ownBlock, v_9.ownBlock] := W.newW hb_12
    replace R0 : RepV (.sl gt1) w_13 (Kx K w.heap.size [v_8.ownBlock, v_9.ownBlock]) v0 x0 := R0
    refine wl_pureK (l' := [(5, v_8)]) S tys tys_ok 5 [5] (by kernel_rfl) ?_
    clear S; intro a S
    refine wpList_nil ?_
    refine then_n ?_
    refine wp_seq ?_
    refine wp_region_lit ?_
    refine wl_pure (l' := [(3, .int .i64 0), (2, v_8), (17, v_8), (5, v_8)]) S tys tys_ok 3 (by kernel_rfl) ?_
    clear S; intro a S
    refine wpList_nil ?_
    refine then_n ?_
    replace S := S.sub (l' := [(3, .int .i64 0), (2, v_8)]) (by exact ⟨rfl, rfl, trivial⟩)
    refine wp_ret ?_
    obtain rfl := Option.some.inj h
    exact b_ret2 S rfl rfl rfl ⟨_, _, rfl, (R_10.lessO 0 rfl), (RepV.mkInt (by decide)), W.below⟩
theorem cb14 : callB Try.prog 14 = true := by kernel_rfl
def p15_l1 (n : Nat) (x0 : Sl (Int × Int × Bool × Bool × Bool × Bool × Int)) : Nat → (Int) → (List (Int)) → Option ((List (Int)))
  | 0, _, _ => .none
  | m + 1, c_14, c_16 => if (decide (c_14 < (lenI x0))) then ((p28 n x0 c_14).bind fun t_30 => (idx c_16 c_14).bind fun y_35 => (ckI .i64 (c_14 + 1)).bind fun x_43 => p15_l1 n x0 m x_43 (c_16.set c_14.toNat t_30)) else some c_16
def p15 (n : Nat) (x0 : Sl (Int × Int × Bool × Bool × Bool × Bool × Int)) : Option ((Sl (Int)) × (Int)) :=
  (p17 n x0).bind fun t_1 =>
  if (t_1 != 0) then (some ((⟨([] : List (Int)), some 0⟩ : Sl (Int)), t_1)) else (mkI (lenI x0) (lenI x0)).bind fun m_8 => (p15_l1 n x0 n 0 (List.replicate m_8.1 (0 : Int))).bind fun (y_24 : (List (Int))) => some ((⟨y_24, some m_8.2⟩ : Sl (Int)), 0)
set_option maxHeartbeats 4000000 in
set_option maxRecDepth 100000 in
/-- plugboard/powers.Limits -/
theorem c15 (K : Nat → Prop) (n : Nat) (w : World) (x0 : Sl (Int × Int × Bool × Bool × Bool × Bool × Int)) (v0 : Value) (R0 : RepV (.sl gt1) w K v0 x0) {r : (Sl (Int)) × (Int)} (h : p15 n x0 = some r) :
    Calls Try.prog 15 #[v0] w (fun e_ w_ => ∃ v0_ v1_ : Value, e_ = .returned (.tuple #[v0_, v1_]) ∧ Ow (.int .i64) 3 w_ w.heap.size (Kx K w.heap.size [v0_.ownBlock]) v0_ r.1.xs r.1.cap ∧ RepV (.int .i64) w_ (Kx K w.heap.size [v0_.ownBlock]) v1_ r.2 ∧ Below w.heap.size w w_) := by
  refine enter (args := [v0]) Try.func15 rfl 28 rfl rfl fun a S => ?_
  have W := Wd.start w
  replace R0 := R0.arg
  unfold p15 at h
  replace S : St 28 a [(0, v0)] := S
  refine wp_seq ?_
  refine wp_region_lit ?_
  refine wl_pure (l' := [(3, .int .i64 0), (2, .slice .none 0 0), (0, v0)]) S tys tys_ok 2 (by kernel_rfl) ?_
  clear S; intro a S
  refine wpList_nil ?_
  refine then_n ?_
  replace S := S.sub (l' := [(0, v0)]) (by exact ⟨rfl, trivial⟩)
  refine wp_seq ?_
  refine wp_seq ?_
  refine wp_region_lit ?_
  refine wl_pure (l' := [(7, v0), (0, v0)]) S tys tys_ok 1 (by kernel_rfl) ?_
  clear S; intro a S
  obtain ⟨t_1, et_1, h⟩ := bindS h
  refine w_go S rfl (op_call (vs := [v0]) S rfl cb17 rfl rfl rfl (c17 (Kx K w.heap.size []) n w x0 _ R0 et_1) ?_)
  rintro _ w_5 ⟨v_2, rfl, R_3, hb_4⟩; refine ⟨_, rfl, ?_⟩
  replace R_3 := RepV.back R_3 W
  clear S; intro a S
  replace R0 := R0.step hb_4
  replace W := W.step hb_4
  obtain ⟨rfl, GR_3⟩ := RepV.int R_3
  refine wl_pure (l' := [(4, .int .i64 t_1), (8, .int .i64 t_1), (7, v0), (0, v0)]) S tys tys_ok 1 (by kernel_rfl) ?_
  clear S; intro a S
  refine wpList_nil ?_
  refine then_n ?_
  replace S := S.sub (l' := [(4, .int .i64 t_1), (0, v0)]) (by exact ⟨rfl, rfl, trivial⟩)
  refine wp_seq ?_
  refine wp_region_lit ?_
  refine wl_pure (l' := [(10, .bool (t_1 != 0)), (9, .int .i64 t_1), (4, .int .i64 t_1), (0, v0)]) S tys tys_ok 2 (by kernel_rfl) ?_
  clear S; intro a S
  refine wpList_nil ?_
  refine then_n ?_
  replace S := S.sub (l' := [(10, .bool (t_1 != 0)), (4, .int .i64 t_1), (0, v0)]) (by exact ⟨rfl, rfl, rfl, trivial⟩)
  refine wp_cond_split (S.eval (show ev _ _ = some (.bool (t_1 != 0)) from rfl)) ?_ ?_
  · intro hc
    rw [if_pos hc] at h
    refine wp_seq ?_
    refine wp_region_lit ?_
    refine wl_pureK (l' := [(3, .int .i64 t_1), (2, .slice .none 0 0)]) S tys tys_ok 3 [3, 2] (by kernel_rfl) ?_
    clear S; intro a S
    refine wpList_nil ?_
    refine then_n ?_
    refine wp_ret ?_
    refine then_r ?_
    replace W := W.more
    have O_6 : Ow (.int .i64) 3 w_5 w.heap.size (Kx K w.heap.size [.none]) (.slice .none 0 0) ([] : List (Int)) (some 0) := Ow.nil
    obtain rfl := Option.some.inj h
    exact b_ret2 S rfl rfl rfl ⟨_, _, rfl, (O_6.lessO 0 rfl), (RepV.mkInt GR_3), W.below⟩
  · intro hc
    rw [if_neg (Bool.eq_false_iff.1 hc)] at h
    refine wp_skip ?_
    refine then_n ?_
    replace S := S.sub (l' := [(0, v0)]) (by exact ⟨rfl, trivial⟩)
    refine wp_seq ?_
    refine wp_region_lit ?_
    refine wl_pure (l' := [(12, v0), (0, v0)]) S tys tys_ok 1 (by kernel_rfl) ?_
    clear S; intro a S
    refine w_go S rfl (op_len (K := _) S rfl ty24 rfl rfl rfl R0 ?_)
    clear S; intro a G_7 S
    obtain ⟨m_8, em_8, h⟩ := bindS h
    refine w_go S rfl (op_make (K := K) (e := (.int .i64)) (z0 := 0) S W _ rfl ty27 un27 by27 z3 (fun w K => ⟨rfl, by decide⟩) rfl rfl rfl rfl em_8 ?_)
    clear S; intro a w_10 b_9 hb_11 O_12 S
    replace R0 := R0.box hb_11
    replace W := W.box hb_11
    replace O_12 : Ow (.int .i64) 3 w_10 w.heap.size (Kx K w.heap.size [some b_9]) (.slice (some ⟨b_9, 0, .none⟩) m_8.1 m_8.2) (List.replicate m_8.1 (0 : Int)) (some m_8.2) := O_12
    refine wl_pureK (l' := [(5, (.slice (some ⟨b_9, 0, .none⟩) m_8.1 m_8.2)), (0, v0)]) S tys tys_ok 1 [5, 0] (by kernel_rfl) ?_
    clear S; intro a S
    refine wpList_nil ?_
    refine then_n ?_
    refine wp_seq ?_
    refine wp_seq ?_
    refine wp_region_lit ?_
    refine wl_pure (l' := [(15, v0), (5, (.slice (some ⟨b_9, 0, .none⟩) m_8.1 m_8.2)), (0, v0)]) S tys tys_ok 1 (by kernel_rfl) ?_
    clear S; intro a S
    refine w_go S rfl (op_len (K := _) S rfl ty24 rfl rfl rfl R0 ?_)
    clear S; intro a G_13 S
    refine wl_pure (l' := [(17, .int .i64 0), (16, .int .i64 (lenI x0)), (15, v0), (5, (.slice (some ⟨b_9, 0, .none⟩) m_8.1 m_8.2)), (0, v0)]) S tys tys_ok 1 (by kernel_rfl) ?_
    clear S; intro a S
    refine wpList_nil ?_
    refine then_n ?_
    replace S := S.sub (l' := [(17, .int .i64 0), (16, .int .i64 (lenI x0)), (5, (.slice (some ⟨b_9, 0, .none⟩) m_8.1 m_8.2)), (0, v0)]) (by exact ⟨rfl, rfl, rfl, rfl, trivial⟩)
    obtain ⟨y_24, ey_24, h⟩ := bindS h
    refine wp_cut_ (fun a_ w_ => ∃ (v_25 : Value), St 28 a_ [(5, v_25)] ∧ Wd w w_ [v_25.ownBlock] ∧ Ow (.int .i64) 3 w_ w.heap.size (Kx K w.heap.size [v_25.ownBlock]) v_25 y_24 (some m_8.2)) ?_ ?_
    · refine wp_block ?_
      refine wp_loop_n (fun m_ a_ w_ => ∃ (c_14 : Int) (c_16 : List (Int)) , ∃ (v_17 : Value), St 28 a_ [(17, .int .i64 c_14), (16, .int .i64 (lenI x0)), (5, v_17), (0, v0)] ∧ Wd w w_ [v_17.ownBlock] ∧ InR .i64 c_14 ∧ RepV (.sl gt1) w_ (Kx K w.heap.size [v_17.ownBlock]) v0 x0 ∧ Ow (.int .i64) 3 w_ w.heap.size (Kx K w.heap.size [v_17.ownBlock]) v_17 c_16 (some m_8.2) ∧ p15_l1 n x0 m_ c_14 c_16 = some y_24) n ?_ ?_
      · skip
        exact ⟨0, (List.replicate m_8.1 (0 : Int)), ⟨(.slice (some ⟨b_9, 0, .none⟩) m_8.1 m_8.2), S.sub (by exact ⟨rfl, rfl, rfl, rfl, trivial⟩), W, (by decide), R0, O_12, ey_24⟩⟩
      · clear S W; rintro m_27 a w_29 ⟨c_14, c_16, v_17, S, W, G_15, R0, O_18, hl_28⟩
        cases m_27 with
        | zero => exact absurd hl_28 (by simp [p15_l1])
        | succ m_27 =>
          refine ⟨m_27, rfl, ?_⟩
          rw [p15_l1] at hl_28
          refine wp_seq ?_
          refine wp_region_lit ?_
          refine wl_pure (l' := [(18, .bool (decide (c_14 < (lenI x0)))), (17, .int .i64 c_14), (16, .int .i64 (lenI x0)), (5, v_17), (0, v0)]) S tys tys_ok 1 (by kernel_rfl) ?_
          clear S; intro a S
          refine wpList_nil ?_
          refine then_n ?_
          refine wp_seq ?_
          refine wp_cond_split (S.eval (show ev _ _ = some (.bool (decide (c_14 < (lenI x0)))) from rfl)) ?_ ?_
          · intro hc
            rw [if_pos hc] at hl_28
            refine wp_skip ?_
            refine then_n ?_
            replace S := S.sub (l' := [(17, .int .i64 c_14), (16, .int .i64 (lenI x0)), (5, v_17), (0, v0)]) (by exact ⟨rfl, rfl, rfl, rfl, trivial⟩)
            refine wp_seq ?_
            refine wp_block ?_
            refine wp_seq ?_
            refine wp_region_lit ?_
            refine wl_pure (l' := [(6, .int .i64 c_14), (19, .int .i64 c_14), (17, .int .i64 c_14), (16, .int .i64 (lenI x0)), (5, v_17), (0, v0)]) S tys tys_ok 2 (by kernel_rfl) ?_
            clear S; intro a S
            refine wpList_nil ?_
            refine then_n ?_
            replace S := S.sub (l' := [(6, .int .i64 c_14), (17, .int .i64 c_14), (16, .int .i64 (lenI x0)), (5, v_17), (0, v0)]) (by exact ⟨rfl, rfl, rfl, rfl, rfl, trivial⟩)
            refine wp_region_lit ?_
            refine wl_pure (l' := [(23, .int .i64 c_14), (22, v0), (21, .int .i64 c_14), (20, v_17), (6, .int .i64 c_14), (17, .int .i64 c_14), (16, .int .i64 (lenI x0)), (5, v_17), (0, v0)]) S tys tys_ok 4 (by kernel_rfl) ?_
            clear S; intro a S
            obtain ⟨t_30, et_30, hl_28⟩ := bindS hl_28
            refine w_go S rfl (op_call (vs := [v0, .int .i64 c_14]) S rfl cb28 rfl rfl rfl (c28 (Kx K w.heap.size [v_17.ownBlock]) n w_29 x0 _ R0 c_14 G_15 et_30) ?_)
            rintro _ w_34 ⟨v_31, rfl, R_32, hb_33⟩; refine ⟨_, rfl, ?_⟩
            replace R_32 := RepV.back R_32 W
            clear S; intro a S
            replace R0 := R0.step hb_33
            replace O_18 := O_18.step hb_33
            replace W := W.step hb_33
            obtain ⟨rfl, GR_32⟩ := RepV.int R_32
            obtain ⟨y_35, ey_35, hl_28⟩ := bindS hl_28
            refine w_go S rfl (op_indexAddr_own S rfl ty27 rfl rfl rfl O_18 rfl ey_35 ?_)
            clear S; intro a g_36 H_38 R_37 S
            refine w_go S rfl (op_store_own (t' := (.int .i64)) S rfl rfl ty3 rfl rfl rfl O_18 H_38 0 rfl (idx_some ey_35).2.1 Ln.whole ((RepV.mkInt GR_32) : RepV (.int .i64) w_34 (Kx K w.heap.size [v_17.ownBlock]) _ t_30) ?_)
            intro w_39 hw_40 hm_42 O_41
            replace R0 := R0.wrote hw_40 hm_42
            replace W := W.wrote hw_40 hm_42
            replace O_41 : Ow (.int .i64) 3 w_39 w.heap.size (Kx K w.heap.size [v_17.ownBlock]) v_17 (c_16.set c_14.toNat t_30) (some m_8.2) := O_41
            refine wpList_nil ?_
            refine blk_n ?_
            refine then_n ?_
            replace S := S.sub (l' := [(17, .int .i64 c_14), (16, .int .i64 (lenI x0)), (5, v_17), (0, v0)]) (by exact ⟨rfl, rfl, rfl, rfl, trivial⟩)
            refine wp_region_lit ?_
            obtain ⟨x_43, ex_43, hl_28⟩ := bindS hl_28
            refine w_go S rfl (op_arith S .i64 (c_14 + 1) rfl (.inl rfl) rfl rfl rfl rfl ex_43 ?_)
            clear S; intro a S
            refine wl_pure (l' := [(17, .int .i64 x_43), (26, .int .i64 x_43), (17, .int .i64 c_14), (16, .int .i64 (lenI x0)), (5, v_17), (0, v0)]) S tys tys_ok 1 (by kernel_rfl) ?_
            clear S; intro a S
            refine wpList_nil ?_
            refine then_n ?_
            exact ⟨x_43, (c_16.set c_14.toNat t_30), ⟨v_17, S.sub (by exact ⟨rfl, rfl, rfl, rfl, trivial⟩), W, (ckI_some ex_43).2.1, R0, O_41, hl_28⟩⟩
          · intro hc
            rw [if_neg (Bool.eq_false_iff.1 hc)] at hl_28
            refine wp_exit ?_
            refine then_x ?_
            refine then_x ?_
            refine blk_hit ?_
            refine then_n ?_
            obtain rfl := Option.some.inj hl_28
            exact ⟨v_17, S.sub (by exact ⟨rfl, trivial⟩), W, O_18⟩
    clear S W; rintro a w_44 ⟨v_25, S, W, O_26⟩
    refine then_n ?_
    refine wp_seq ?_
    refine wp_region_lit ?_
    refine wl_pure (l' := [(3, .int .i64 0), (2, v_25), (27, v_25), (5, v_25)]) S tys tys_ok 3 (by kernel_rfl) ?_
    clear S; intro a S
    refine wpList_nil ?_
    refine then_n ?_
    replace S := S.sub (l' := [(3, .int .i64 0), (2, v_25)]) (by exact ⟨rfl, rfl, trivial⟩)
    refine wp_ret ?_
    obtain rfl := Option.some.inj h
    exact b_ret2 S rfl rfl rfl ⟨_, _, rfl, (O_26.lessO 0 rfl), (RepV.mkInt (by decide)), W.below⟩
theorem cb15 : callB Try.prog 15 = true := by kernel_rfl
def p34 (n : Nat) (x0 : Sl (Int)) : Option ((Sl (Int))) :=
  (sl3I x0 0 (lenI x0) (lenI x0)).bind fun s_5 =>
  some s_5
set_option maxHeartbeats 4000000 in
set_option maxRecDepth 100000 in
/-- slices.Clip[[]int,int] -/
theorem c34 (K : Nat → Prop) (n : Nat) (w : World) (x0 : Sl (Int)) (v0 : Value) (R0 : RepV (.sl (.int .i64)) w K v0 x0) {r : (Sl (Int))} (h : p34 n x0 = some r) :
    Calls Try.prog 34 #[v0] w (Ret1 (.sl (.int .i64)) w (Kx K w.heap.size []) r) := by
  refine enter (args := [v0]) Try.func34 rfl 9 rfl rfl fun a S => ?_
  have W := Wd.start w
  replace R0 := R0.arg
  unfold p34 at h
  replace S : St 9 a [(0, v0)] := S
  refine wp_seq ?_
  refine wp_region_lit ?_
  refine wl_pure (l' := [(2, .slice .none 0 0), (0, v0)]) S tys tys_ok 1 (by kernel_rfl) ?_
  clear S; intro a S
  refine wpList_nil ?_
  refine then_n ?_
  replace S := S.sub (l' := [(0, v0)]) (by exact ⟨rfl, trivial⟩)
  refine wp_seq ?_
  refine wp_region_lit ?_
  refine wl_pure (l' := [(4, v0), (3, v0), (0, v0)]) S tys tys_ok 2 (by kernel_rfl) ?_
  clear S; intro a S
  refine w_go S rfl (op_len (K := _) S rfl ty27 rfl rfl rfl R0 ?_)
  clear S; intro a G_1 S
  refine wl_pure (l' := [(6, v0), (5, .int .i64 (lenI x0)), (4, v0), (3, v0), (0, v0)]) S tys tys_ok 1 (by kernel_rfl) ?_
  clear S; intro a S
  refine w_go S rfl (op_len (K := _) S rfl ty27 rfl rfl rfl R0 ?_)
  clear S; intro a G_2 S
  obtain ⟨s_5, es_5, h⟩ := bindS h
  refine w_go S rfl (op_slice3 S rfl ty27 rfl rfl rfl R0 (.inl ⟨rfl, rfl⟩) rfl rfl es_5 ?_)
  clear S; intro a v_3 R_4 S
  refine wl_pureK (l' := [(2, v_3)]) S tys tys_ok 1 [2] (by kernel_rfl) ?_
  clear S; intro a S
  refine wpList_nil ?_
  refine then_n ?_
  refine wp_ret ?_
  obtain rfl := Option.some.inj h
  exact b_ret1 S rfl rfl ⟨_, rfl, R_4.out, W.below⟩
theorem cb34 : callB Try.prog 34 = true := by kernel_rfl
def p29_l1 (n : Nat) (x0 : Sl (Bool)) : Nat → (Int) → (List (Int)) → Option ((List (Int)))
  | 0, _, _ => .none
  | m + 1, c_2, c_4 => if (decide (c_2 < (lenI x0))) then ((idx x0.xs c_2).bind fun y_19 => (if y_19 then ((appI c_4 ([c_2])).bind fun l_32 => some l_32) else some c_4).bind fun (j_25 : (List (Int))) => (ckI .i64 (c_2 + 1)).bind fun x_38 => p29_l1 n x0 m x_38 j_25) else some c_4
def p29 (n : Nat) (x0 : Sl (Bool)) : Option ((Sl (Int))) :=
  (p29_l1 n x0 n 0 []).bind fun (y_12 : (List (Int))) =>
  (p34 n (⟨y_12, .none⟩ : Sl (Int))).bind fun t_41 =>
  some t_41
set_option maxHeartbeats 4000000 in
set_option maxRecDepth 100000 in
/-- plugboard/powers.indices -/
theorem c29 (K : Nat → Prop) (n : Nat) (w : World) (x0 : Sl (Bool)) (v0 : Value) (R0 : RepV (.sl .bool) w K v0 x0) {r : (Sl (Int))} (h : p29 n x0 = some r) :
    Calls Try.prog 29 #[v0] w (Ret1 (.sl (.int .i64)) w (Kx K w.heap.size []) r) := by
  refine enter (args := [v0]) Try.func29 rfl 21 rfl rfl fun a S => ?_
  have W := Wd.start w
  replace R0 := R0.arg
  unfold p29 at h
  replace S : St 21 a [(0, v0)] := S
  refine wp_seq ?_
  refine wp_region_lit ?_
  refine wl_pure (l' := [(2, .slice .none 0 0), (0, v0)]) S tys tys_ok 1 (by kernel_rfl) ?_
  clear S; intro a S
  refine wpList_nil ?_
  refine then_n ?_
  replace S := S.sub (l' := [(0, v0)]) (by exact ⟨rfl, trivial⟩)
  refine wp_seq ?_
  refine wp_region_lit ?_
  refine wl_pure (l' := [(3, .slice .none 0 0), (0, v0)]) S tys tys_ok 1 (by kernel_rfl) ?_
  clear S; intro a S
  refine wpList_nil ?_
  refine then_n ?_
  refine wp_seq ?_
  refine wp_seq ?_
  refine wp_region_lit ?_
  refine wl_pure (l' := [(6, v0), (3, .slice .none 0 0), (0, v0)]) S tys tys_ok 1 (by kernel_rfl) ?_
  clear S; intro a S
  refine w_go S rfl (op_len (K := _) S rfl ty53 rfl rfl rfl R0 ?_)
  clear S; intro a G_1 S
  refine wl_pure (l' := [(8, .int .i64 0), (7, .int .i64 (lenI x0)), (6, v0), (3, .slice .none 0 0), (0, v0)]) S tys tys_ok 1 (by kernel_rfl) ?_
  clear S; intro a S
  refine wpList_nil ?_
  refine then_n ?_
  replace S := S.sub (l' := [(8, .int .i64 0), (7, .int .i64 (lenI x0)), (6, v0), (3, .slice .none 0 0)]) (by exact ⟨rfl, rfl, rfl, rfl, trivial⟩)
  obtain ⟨y_12, ey_12, h⟩ := bindS h
  refine wp_cut_ (fun a_ w_ => ∃ (v_13 : Value), St 21 a_ [(3, v_13)] ∧ Wd w w_ [v_13.ownBlock] ∧ Ow (.int .i64) 3 w_ w.heap.size (Kx K w.heap.size [v_13.ownBlock]) v_13 y_12 .none) ?_ ?_
  · refine wp_block ?_
    refine wp_loop_n (fun m_ a_ w_ => ∃ (c_2 : Int) (c_4 : List (Int)) , ∃ (v_5 : Value), St 21 a_ [(8, .int .i64 c_2), (7, .int .i64 (lenI x0)), (6, v0), (3, v_5)] ∧ Wd w w_ [v_5.ownBlock] ∧ InR .i64 c_2 ∧ RepV (.sl .bool) w_ (Kx K w.heap.size [v_5.ownBlock]) v0 x0 ∧ Ow (.int .i64) 3 w_ w.heap.size (Kx K w.heap.size [v_5.ownBlock]) v_5 c_4 .none ∧ p29_l1 n x0 m_ c_2 c_4 = some y_12) n ?_ ?_
    · skip
      replace R0 := R0.more
      replace W := W.more
      have O_17 : Ow (.int .i64) 3 w w.heap.size (Kx K w.heap.size [.none]) (.slice .none 0 0) ([] : List (Int)) (some 0) := Ow.nil
      exact ⟨0, [], ⟨(.slice .none 0 0), S.sub (by exact ⟨rfl, rfl, rfl, rfl, trivial⟩), W, (by decide), R0, O_17.forget, ey_12⟩⟩
    · clear S W; rintro m_15 a w_18 ⟨c_2, c_4, v_5, S, W, G_3, R0, O_6, hl_16⟩
      cases m_15 with
      | zero => exact absurd hl_16 (by simp [p29_l1])
      | succ m_15 =>
        refine ⟨m_15, rfl, ?_⟩
        rw [p29_l1] at hl_16
        refine wp_seq ?_
        refine wp_region_lit ?_
        refine wl_pure (l' := [(9, .bool (decide (c_2 < (lenI x0)))), (8, .int .i64 c_2), (7, .int .i64 (lenI x0)), (6, v0), (3, v_5)]) S tys tys_ok 1 (by kernel_rfl) ?_
        clear S; intro a S
        refine wpList_nil ?_
        refine then_n ?_
        refine wp_seq ?_
        refine wp_cond_split (S.eval (show ev _ _ = some (.bool (decide (c_2 < (lenI x0)))) from rfl)) ?_ ?_
        · intro hc
          rw [if_pos hc] at hl_16
          refine wp_skip ?_
          refine then_n ?_
          replace S := S.sub (l' := [(8, .int .i64 c_2), (7, .int .i64 (lenI x0)), (6, v0), (3, v_5)]) (by exact ⟨rfl, rfl, rfl, rfl, trivial⟩)
          refine wp_seq ?_
          refine wp_block ?_
          refine wp_seq ?_
          refine wp_region_lit ?_
          refine wl_pure (l' := [(10, .int .i64 c_2), (8, .int .i64 c_2), (7, .int .i64 (lenI x0)), (6, v0), (3, v_5)]) S tys tys_ok 1 (by kernel_rfl) ?_
          clear S; intro a S
          obtain ⟨y_19, ey_19, hl_16⟩ := bindS hl_16
          refine w_go S rfl (op_indexAddr S rfl ty53 rfl rfl rfl R0 rfl ey_19 ?_)
          clear S; intro a p_20 R_21 H_22 S
          refine w_go S rfl (op_load (t := .bool) (x := y_19) S rfl ty4 rfl rfl rfl R_21 ?_)
          clear S; intro a v_23 R_24 S
          obtain rfl := RepV.bool R_24
          refine wl_pureK (l' := [(5, .bool y_19), (4, .int .i64 c_2), (8, .int .i64 c_2), (7, .int .i64 (lenI x0)), (6, v0), (3, v_5)]) S tys tys_ok 2 [5, 4, 8, 7, 6, 3] (by kernel_rfl) ?_
          clear S; intro a S
          refine wpList_nil ?_
          refine then_n ?_
          refine wp_seq ?_
          refine wp_region_lit ?_
          refine wl_pure (l' := [(13, .bool y_19), (5, .bool y_19), (4, .int .i64 c_2), (8, .int .i64 c_2), (7, .int .i64 (lenI x0)), (6, v0), (3, v_5)]) S tys tys_ok 1 (by kernel_rfl) ?_
          clear S; intro a S
          refine wpList_nil ?_
          refine then_n ?_
          replace S := S.sub (l' := [(13, .bool y_19), (4, .int .i64 c_2), (8, .int .i64 c_2), (7, .int .i64 (lenI x0)), (6, v0), (3, v_5)]) (by exact ⟨rfl, rfl, rfl, rfl, rfl, rfl, trivial⟩)
          obtain ⟨j_25, ej_25, hl_16⟩ := bindS hl_16
          refine wp_cut_ (fun a_ w_ => ∃ (v_26 : Value), St 21 a_ [(8, .int .i64 c_2), (7, .int .i64 (lenI x0)), (6, v0), (3, v_26)] ∧ Wd w w_ [v_26.ownBlock] ∧ RepV (.sl .bool) w_ (Kx K w.heap.size [v_26.ownBlock]) v0 x0 ∧ Ow (.int .i64) 3 w_ w.heap.size (Kx K w.heap.size [v_26.ownBlock]) v_26 j_25 .none) ?_ ?_
          · refine wp_cond_split (S.eval (show ev _ _ = some (.bool y_19) from rfl)) ?_ ?_
            · intro hc
              rw [if_pos hc] at ej_25
              refine wp_region_lit ?_
              refine wl_pure (l' := [(15, .int .i64 c_2), (14, v_5), (13, .bool y_19), (4, .int .i64 c_2), (8, .int .i64 c_2), (7, .int .i64 (lenI x0)), (6, v0), (3, v_5)]) S tys tys_ok 2 (by kernel_rfl) ?_
              clear S; intro a S
              refine w_go S rfl (op_buildSlice (K := K) (e := (.int .i64)) (vs := [.int .i64 c_2]) (xs := [c_2]) S W rfl ty27 rfl rfl (by kernel_rfl) rfl rfl rfl rfl rfl ⟨(RepV.mkInt G_3), trivial⟩ ?_)
              clear S; intro a w_31 v_28 hb_30 R_29 S
              replace R0 := R0.step hb_30
              replace O_6 := O_6.step hb_30
              replace W := W.step hb_30
              obtain ⟨l_32, el_32, ej_25⟩ := bindS ej_25
              refine w_go S rfl (op_append S W (E := 3) 0 rfl ty27 un27 by27 rfl rfl rfl rfl O_6 rfl R_29 el_32 ?_)
              clear S; intro a w_34 v_33 A_35 O_36 S
              replace R0 : RepV (.sl .bool) w_34 (Kx K w.heap.size [v_33.ownBlock]) v0 x0 := R0.apd A_35 (i := 0) rfl
              replace R_29 : RepV (.sl (.int .i64)) w_34 (Kx K w.heap.size [v_33.ownBlock]) v_28 (⟨[c_2], some 1⟩ : Sl (Int)) := R_29.apd A_35 (i := 0) rfl
              replace W : Wd w w_34 [v_33.ownBlock] := W.apd A_35 (i := 0) rfl
              replace O_36 : Ow (.int .i64) 3 w_34 w.heap.size (Kx K w.heap.size [v_33.ownBlock]) v_33 l_32 (capA .none l_32.length) := O_36
              refine wl_pureK (l' := [(3, v_33), (8, .int .i64 c_2), (7, .int .i64 (lenI x0)), (6, v0), (3, v_5)]) S tys tys_ok 1 [3, 8, 7, 6] (by kernel_rfl) ?_
              clear S; intro a S
              refine wpList_nil ?_
              refine then_n ?_
              obtain rfl := Option.some.inj ej_25
              exact ⟨v_33, S.sub (by exact ⟨rfl, rfl, rfl, rfl, trivial⟩), W, R0, O_36.forget⟩
            · intro hc
              rw [if_neg (Bool.eq_false_iff.1 hc)] at ej_25
              refine wp_skip ?_
              refine then_n ?_
              obtain rfl := Option.some.inj ej_25
              exact ⟨v_5, S.sub (by exact ⟨rfl, rfl, rfl, rfl, trivial⟩), W, R0, O_6⟩
          clear S W; rintro a w_37 ⟨v_26, S, W, R0, O_27⟩
          refine blk_n ?_
          refine then_n ?_
          refine wp_region_lit ?_
          obtain ⟨x_38, ex_38, hl_16⟩ := bindS hl_16
          refine w_go S rfl (op_arith S .i64 (c_2 + 1) rfl (.inl rfl) rfl rfl rfl rfl ex_38 ?_)
          clear S; intro a S
          refine wl_pure (l' := [(8, .int .i64 x_38), (18, .int .i64 x_38), (8, .int .i64 c_2), (7, .int .i64 (lenI x0)), (6, v0), (3, v_26)]) S tys tys_ok 1 (by kernel_rfl) ?_
          clear S; intro a S
          refine wpList_nil ?_
          refine then_n ?_
          exact ⟨x_38, j_25, ⟨v_26, S.sub (by exact ⟨rfl, rfl, rfl, rfl, trivial⟩), W, (ckI_some ex_38).2.1, R0, O_27, hl_16⟩⟩
        · intro hc
          rw [if_neg (Bool.eq_false_iff.1 hc)] at hl_16
          refine wp_exit ?_
          refine then_x ?_
          refine then_x ?_
          refine blk_hit ?_
          refine then_n ?_
          obtain rfl := Option.some.inj hl_16
          exact ⟨v_5, S.sub (by exact ⟨rfl, trivial⟩), W, O_6⟩
  clear S W; rintro a w_39 ⟨v_13, S, W, O_14⟩
  refine then_n ?_
  refine wp_seq ?_
  refine wp_region_lit ?_
  refine wl_pure (l' := [(19, v_13), (3, v_13)]) S tys tys_ok 1 (by kernel_rfl) ?_
  clear S; intro a S
  have R_40 : RepV (.sl (.int .i64)) w_39 (Kx K w.heap.size []) v_13 (⟨y_12, .none⟩ : Sl (Int)) := O_14.pubAt W 0 rfl
  replace W : Wd w w_39 [] := W.lessAt 0
  obtain ⟨t_41, et_41, h⟩ := bindS h
  refine w_go S rfl (op_call (vs := [v_13]) S rfl cb34 rfl rfl rfl (c34 (Kx K w.heap.size []) n w_39 (⟨y_12, .none⟩ : Sl (Int)) _ R_40 et_41) ?_)
  rintro _ w_45 ⟨v_42, rfl, R_43, hb_44⟩; refine ⟨_, rfl, ?_⟩
  replace R_43 := RepV.back R_43 W
  clear S; intro a S
  replace R_40 := R_40.step hb_44
  replace W := W.step hb_44
  refine wl_pureK (l' := [(2, v_42)]) S tys tys_ok 1 [2] (by kernel_rfl) ?_
  clear S; intro a S
  refine wpList_nil ?_
  refine then_n ?_
  refine wp_ret ?_
  obtain rfl := Option.some.inj h
  exact b_ret1 S rfl rfl ⟨_, rfl, R_43.out, W.below⟩
theorem cb29 : callB Try.prog 29 = true := by kernel_rfl
def p16 (n : Nat) (x0 : Sl (Int × Int × Bool × Bool × Bool × Bool × Int)) : Option ((Sl (Int)) × (Int)) :=
  (p17 n x0).bind fun t_1 =>
  if (t_1 != 0) then (some ((⟨[], some 0⟩ : Sl (Int)), t_1)) else (p27 n x0 false).bind fun t_6 => (p29 n (⟨t_6.2.xs, t_6.2.cap⟩ : Sl (Bool))).bind fun t_14 => some (t_14, 0)
set_option maxHeartbeats 4000000 in
set_option maxRecDepth 100000 in
/-- plugboard/powers.Over -/
theorem c16 (K : Nat → Prop) (n : Nat) (w : World) (x0 : Sl (Int × Int × Bool × Bool × Bool × Bool × Int)) (v0 : Value) (R0 : RepV (.sl gt1) w K v0 x0) {r : (Sl (Int)) × (Int)} (h : p16 n x0 = some r) :
    Calls Try.prog 16 #[v0] w (Ret2 (.sl (.int .i64)) (.int .i64) w (Kx K w.heap.size []) r) := by
  refine enter (args := [v0]) Try.func16 rfl 19 rfl rfl fun a S => ?_
  have W := Wd.start w
  replace R0 := R0.arg
  unfold p16 at h
  replace S : St 19 a [(0, v0)] := S
  refine wp_seq ?_
  refine wp_region_lit ?_
  refine wl_pure (l' := [(3, .int .i64 0), (2, .slice .none 0 0), (0, v0)]) S tys tys_ok 2 (by kernel_rfl) ?_
  clear S; intro a S
  refine wpList_nil ?_
  refine then_n ?_
  replace S := S.sub (l' := [(0, v0)]) (by exact ⟨rfl, trivial⟩)
  refine wp_seq ?_
  refine wp_seq ?_
  refine wp_region_lit ?_
  refine wl_pure (l' := [(7, v0), (0, v0)]) S tys tys_ok 1 (by kernel_rfl) ?_
  clear S; intro a S
  obtain ⟨t_1, et_1, h⟩ := bindS h
  refine w_go S rfl (op_call (vs := [v0]) S rfl cb17 rfl rfl rfl (c17 (Kx K w.heap.size []) n w x0 _ R0 et_1) ?_)
  rintro _ w_5 ⟨v_2, rfl, R_3, hb_4⟩; refine ⟨_, rfl, ?_⟩
  replace R_3 := RepV.back R_3 W
  clear S; intro a S
  replace R0 := R0.step hb_4
  replace W := W.step hb_4
  obtain ⟨rfl, GR_3⟩ := RepV.int R_3
  refine wl_pure (l' := [(4, .int .i64 t_1), (8, .int .i64 t_1), (7, v0), (0, v0)]) S tys tys_ok 1 (by kernel_rfl) ?_
  clear S; intro a S
  refine wpList_nil ?_
  refine then_n ?_
  replace S := S.sub (l' := [(4, .int .i64 t_1), (0, v0)]) (by exact ⟨rfl, rfl, trivial⟩)
  refine wp_seq ?_
  refine wp_region_lit ?_
  refine wl_pure (l' := [(10, .bool (t_1 != 0)), (9, .int .i64 t_1), (4, .int .i64 t_1), (0, v0)]) S tys tys_ok 2 (by kernel_rfl) ?_
  clear S; intro a S
  refine wpList_nil ?_
  refine then_n ?_
  replace S := S.sub (l' := [(10, .bool (t_1 != 0)), (4, .int .i64 t_1), (0, v0)]) (by exact ⟨rfl, rfl, rfl, trivial⟩)
  refine wp_cond_split (S.eval (show ev _ _ = some (.bool (t_1 != 0)) from rfl)) ?_ ?_
  · intro hc
    rw [if_pos hc] at h
    refine wp_seq ?_
    refine wp_region_lit ?_
    refine wl_pureK (l' := [(3, .int .i64 t_1), (2, .slice .none 0 0)]) S tys tys_ok 3 [3, 2] (by kernel_rfl) ?_
    clear S; intro a S
    refine wpList_nil ?_
    refine then_n ?_
    refine wp_ret ?_
    refine then_r ?_
    obtain rfl := Option.some.inj h
    exact b_ret2 S rfl rfl rfl ⟨_, _, rfl, RepV.nil, (RepV.mkInt GR_3), W.below⟩
  · intro hc
    rw [if_neg (Bool.eq_false_iff.1 hc)] at h
    refine wp_skip ?_
    refine then_n ?_
    replace S := S.sub (l' := [(0, v0)]) (by exact ⟨rfl, trivial⟩)
    refine wp_seq ?_
    refine wp_region_lit ?_
    refine wl_pure (l' := [(13, v0), (0, v0)]) S tys tys_ok 1 (by kernel_rfl) ?_
    clear S; intro a S
    obtain ⟨t_6, et_6, h⟩ := bindS h
    refine w_go S rfl (op_call (vs := [v0, .bool false]) S rfl cb27 rfl rfl rfl (c27 (Kx K w.heap.size []) n w_5 x0 _ R0 false et_6) ?_)
    rintro _ w_12 ⟨v_7, v_8, rfl, R_9, R_10, hb_11⟩; refine ⟨_, rfl, ?_⟩
    have hbhb_11 := hb_11.below
    replace R_9 := Ow.backW R_9 W
    replace R_10 := Ow.backW R_10 W
    clear S; intro a S
    replace R0 := R0.newW hb_11
    replace W : Wd w w_12 [v_7.ownBlock, v_8.ownBlock] := W.newW hb_11
    replace R0 : RepV (.sl gt1) w_12 (Kx K w.heap.size [v_7.ownBlock, v_8.ownBlock]) v0 x0 := R0
    refine wl_pureK (l' := [(6, v_8)]) S tys tys_ok 5 [6] (by kernel_rfl) ?_
    clear S; intro a S
    refine wpList_nil ?_
    refine then_n ?_
    refine wp_seq ?_
    refine wp_region_lit ?_
    refine wl_pure (l' := [(17, v_8), (6, v_8)]) S tys tys_ok 1 (by kernel_rfl) ?_
    clear S; intro a S
    have R_13 : RepV (.sl .bool) w_12 (Kx K w.heap.size [v_7.ownBlock]) v_8 (⟨t_6.2.xs, t_6.2.cap⟩ : Sl (Bool)) := R_10.pubAt W 1 rfl
    replace W : Wd w w_12 [v_7.ownBlock] := W.lessAt 1
    obtain ⟨t_14, et_14, h⟩ := bindS h
    refine w_go S rfl (op_call (vs := [v_8]) S rfl cb29 rfl rfl rfl (c29 (Kx K w.heap.size [v_7.ownBlock]) n w_12 (⟨t_6.2.xs, t_6.2.cap⟩ : Sl (Bool)) _ R_13 et_14) ?_)
    rintro _ w_18 ⟨v_15, rfl, R_16, hb_17⟩; refine ⟨_, rfl, ?_⟩
    replace R_16 := RepV.back R_16 W
    clear S; intro a S
    replace R_13 := R_13.step hb_17
    replace W := W.step hb_17
    refine wl_pureK (l' := [(3, .int .i64 0), (2, v_15)]) S tys tys_ok 2 [3, 2] (by kernel_rfl) ?_
    clear S; intro a S
    refine wpList_nil ?_
    refine then_n ?_
    refine wp_ret ?_
    obtain rfl := Option.some.inj h
    exact b_ret2 S rfl rfl rfl ⟨_, _, rfl, R_16.out, (RepV.mkInt (by decide)), W.below⟩
theorem cb16 : callB Try.prog 16 = true := by kernel_rfl

end Go.Proofs.Ytnelgpgmggcdcaa
