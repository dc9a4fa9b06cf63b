/- x. -/
import Derived.Test.YtojifdijcanbpaaR0
set_option linter.unusedVariables false
set_option linter.unusedSimpArgs false
namespace Go.Proofs.Ytojifdijcanbpaa
open Go.RowKit

def p36 (n : Nat) (x0 : Sl (Int)) : Option ((Sl (Int))) :=
  (sl3I x0 0 (lenI x0) (lenI x0)).bind fun s_5 =>
  some s_5
set_option maxHeartbeats 4000000 in
set_option maxRecDepth 100000 in
/-- slices.Clip[[]byte,byte] -/
theorem c36 (K : Nat → Prop) (n : Nat) (w : World) (x0 : Sl (Int)) (v0 : Value) (R0 : RepV (.sl (.int .u8)) w K v0 x0) {r : (Sl (Int))} (h : p36 n x0 = some r) :
    Calls Try.prog 36 #[v0] w (Ret1 (.sl (.int .u8)) w (Kx K w.heap.size []) r) := by
  refine enter (args := [v0]) Try.func36 rfl 9 rfl rfl fun a S => ?_
  have W := Wd.start w
  replace R0 := R0.arg
  unfold p36 at h
  replace S : St 9 a [(0, v0)] := S
  refine wp_seq ?_
  refine wp_region_lit ?_
  refine wl_pure (l' := [(2, .slice .none 0 0), (0, v0)]) S tys tys_ok 1 (by kernel_rfl) ?_
  clear S; intro a S
  refine wpList_nil ?_
  refine then_n ?_
  replace S := S.sub (l' := [(0, v0)]) (by exact ⟨rfl, trivial⟩)
  refine wp_seq ?_
  refine wp_region_lit ?_
  refine wl_pure (l' := [(4, v0), (3, v0), (0, v0)]) S tys tys_ok 2 (by kernel_rfl) ?_
  clear S; intro a S
  refine w_go S rfl (op_len (K := _) S rfl ty23 rfl rfl rfl R0 ?_)
  clear S; intro a G_1 S
  refine wl_pure (l' := [(6, v0), (5, .int .i64 (lenI x0)), (4, v0), (3, v0), (0, v0)]) S tys tys_ok 1 (by kernel_rfl) ?_
  clear S; intro a S
  refine w_go S rfl (op_len (K := _) S rfl ty23 rfl rfl rfl R0 ?_)
  clear S; intro a G_2 S
  obtain ⟨s_5, es_5, h⟩ := bindS h
  refine w_go S rfl (op_slice3 S rfl ty23 rfl rfl rfl R0 (.inl ⟨rfl, rfl⟩) rfl rfl es_5 ?_)
  clear S; intro a v_3 R_4 S
  refine wl_pure (l' := [(2, v_3), (8, v_3), (7, .int .i64 (lenI x0)), (6, v0), (5, .int .i64 (lenI x0)), (4, v0), (3, v0), (0, v0)]) S tys tys_ok 1 (by kernel_rfl) ?_
  clear S; intro a S
  refine wpList_nil ?_
  refine then_n ?_
  replace S := S.sub (l' := [(2, v_3)]) (by exact ⟨rfl, trivial⟩)
  refine wp_ret ?_
  obtain rfl := Option.some.inj h
  exact b_ret1 S rfl rfl ⟨_, rfl, R_4.out, W.below⟩
theorem cb36 : callB Try.prog 36 = true := by kernel_rfl
def p37 (n : Nat) (x0 : Sl (Sl (Int))) : Option ((Sl (Sl (Int)))) :=
  (sl3I x0 0 (lenI x0) (lenI x0)).bind fun s_5 =>
  some s_5
set_option maxHeartbeats 4000000 in
set_option maxRecDepth 100000 in
/-- slices.Clip[[][]byte,[]byte] -/
theorem c37 (K : Nat → Prop) (n : Nat) (w : World) (x0 : Sl (Sl (Int))) (v0 : Value) (R0 : RepV (.sl (.sl (.int .u8))) w K v0 x0) {r : (Sl (Sl (Int)))} (h : p37 n x0 = some r) :
    Calls Try.prog 37 #[v0] w (Ret1 (.sl (.sl (.int .u8))) w (Kx K w.heap.size []) r) := by
  refine enter (args := [v0]) Try.func37 rfl 9 rfl rfl fun a S => ?_
  have W := Wd.start w
  replace R0 := R0.arg
  unfold p37 at h
  replace S : St 9 a [(0, v0)] := S
  refine wp_seq ?_
  refine wp_region_lit ?_
  refine wl_pure (l' := [(2, .slice .none 0 0), (0, v0)]) S tys tys_ok 1 (by kernel_rfl) ?_
  clear S; intro a S
  refine wpList_nil ?_
  refine then_n ?_
  replace S := S.sub (l' := [(0, v0)]) (by exact ⟨rfl, trivial⟩)
  refine wp_seq ?_
  refine wp_region_lit ?_
  refine wl_pure (l' := [(4, v0), (3, v0), (0, v0)]) S tys tys_ok 2 (by kernel_rfl) ?_
  clear S; intro a S
  refine w_go S rfl (op_len (K := _) S rfl ty27 rfl rfl rfl R0 ?_)
  clear S; intro a G_1 S
  refine wl_pure (l' := [(6, v0), (5, .int .i64 (lenI x0)), (4, v0), (3, v0), (0, v0)]) S tys tys_ok 1 (by kernel_rfl) ?_
  clear S; intro a S
  refine w_go S rfl (op_len (K := _) S rfl ty27 rfl rfl rfl R0 ?_)
  clear S; intro a G_2 S
  obtain ⟨s_5, es_5, h⟩ := bindS h
  refine w_go S rfl (op_slice3 S rfl ty27 rfl rfl rfl R0 (.inl ⟨rfl, rfl⟩) rfl rfl es_5 ?_)
  clear S; intro a v_3 R_4 S
  refine wl_pure (l' := [(2, v_3), (8, v_3), (7, .int .i64 (lenI x0)), (6, v0), (5, .int .i64 (lenI x0)), (4, v0), (3, v0), (0, v0)]) S tys tys_ok 1 (by kernel_rfl) ?_
  clear S; intro a S
  refine wpList_nil ?_
  refine then_n ?_
  replace S := S.sub (l' := [(2, v_3)]) (by exact ⟨rfl, trivial⟩)
  refine wp_ret ?_
  obtain rfl := Option.some.inj h
  exact b_ret1 S rfl rfl ⟨_, rfl, R_4.out, W.below⟩
theorem cb37 : callB Try.prog 37 = true := by kernel_rfl
def p12_l1 (n : Nat)  : Nat → (List (Sl (Int))) → (Sl (Int)) → Option (((List (Sl (Int)))) ⊕ ((Sl (Sl (Int))) × (Int)))
  | 0, _, _ => .none
  | m + 1, c_2, c_5 => if (decide ((lenI c_5) > 0)) then ((idx c_5.xs 0).bind fun y_23 => (if (decide (y_23 < 2)) = false then some (decide (y_23 > (lenI c_5))) else some true).bind fun q_29 => if q_29 then (some (.inr ((⟨[], some 0⟩ : Sl (Sl (Int))), 4))) else (slI c_5 0 y_23).bind fun s_33 => (appI ([] : List (Int)) s_33.xs).bind fun l_35 => (p36 n (⟨l_35, capA (some 0) l_35.length⟩ : Sl (Int))).bind fun t_41 => (appI c_2 ([t_41])).bind fun l_50 => (slI c_5 y_23 (lenI c_5)).bind fun s_57 => p12_l1 n m l_50 s_57) else some (.inl c_2)
def p12 (n : Nat) (x0 : Sl (Int)) : Option ((Sl (Sl (Int))) × (Int)) :=
  if (decide ((lenI x0) > 4096)) then (some ((⟨[], some 0⟩ : Sl (Sl (Int))), 3)) else (p12_l1 n n [] x0).bind fun (y_14 : ((List (Sl (Int)))) ⊕ ((Sl (Sl (Int))) × (Int))) => lrK y_14 some fun (s_15 : (List (Sl (Int)))) => (p37 n (⟨s_15, .none⟩ : Sl (Sl (Int)))).bind fun t_60 => some (t_60, 0)
set_option maxHeartbeats 4000000 in
set_option maxRecDepth 100000 in
/-- plugboard/descriptors.Divide -/
theorem c12 (K : Nat → Prop) (n : Nat) (w : World) (x0 : Sl (Int)) (v0 : Value) (R0 : RepV (.sl (.int .u8)) w K v0 x0) {r : (Sl (Sl (Int))) × (Int)} (h : p12 n x0 = some r) :
    Calls Try.prog 12 #[v0] w (Ret2 (.sl (.sl (.int .u8))) (.int .i64) w (Kx K w.heap.size []) r) := by
  refine enter (args := [v0]) Try.func12 rfl 37 rfl rfl fun a S => ?_
  have W := Wd.start w
  replace R0 := R0.arg
  unfold p12 at h
  replace S : St 37 a [(0, v0)] := S
  refine wp_seq ?_
  refine wp_region_lit ?_
  refine wl_pure (l' := [(3, .int .i64 0), (2, .slice .none 0 0), (0, v0)]) S tys tys_ok 2 (by kernel_rfl) ?_
  clear S; intro a S
  refine wpList_nil ?_
  refine then_n ?_
  replace S := S.sub (l' := [(0, v0)]) (by exact ⟨rfl, trivial⟩)
  refine wp_seq ?_
  refine wp_seq ?_
  refine wp_region_lit ?_
  refine wl_pure (l' := [(6, v0), (0, v0)]) S tys tys_ok 1 (by kernel_rfl) ?_
  clear S; intro a S
  refine w_go S rfl (op_len (K := _) S rfl ty23 rfl rfl rfl R0 ?_)
  clear S; intro a G_1 S
  refine wl_pure (l' := [(8, .bool (decide ((lenI x0) > 4096))), (7, .int .i64 (lenI x0)), (6, v0), (0, v0)]) S tys tys_ok 1 (by kernel_rfl) ?_
  clear S; intro a S
  refine wpList_nil ?_
  refine then_n ?_
  replace S := S.sub (l' := [(8, .bool (decide ((lenI x0) > 4096))), (0, v0)]) (by exact ⟨rfl, rfl, trivial⟩)
  refine wp_cond_split (S.eval (show ev _ _ = some (.bool (decide ((lenI x0) > 4096))) from rfl)) ?_ ?_
  · intro hc
    rw [if_pos hc] at h
    refine wp_seq ?_
    refine wp_region_lit ?_
    refine wl_pure (l' := [(3, .int .i64 3), (2, .slice .none 0 0), (8, .bool (decide ((lenI x0) > 4096))), (0, v0)]) S tys tys_ok 2 (by kernel_rfl) ?_
    clear S; intro a S
    refine wpList_nil ?_
    refine then_n ?_
    replace S := S.sub (l' := [(3, .int .i64 3), (2, .slice .none 0 0)]) (by exact ⟨rfl, rfl, trivial⟩)
    refine wp_ret ?_
    refine then_r ?_
    obtain rfl := Option.some.inj h
    exact b_ret2 S rfl rfl rfl ⟨_, _, rfl, RepV.nil, (RepV.mkInt (by decide)), W.below⟩
  · intro hc
    rw [if_neg (Bool.eq_false_iff.1 hc)] at h
    refine wp_skip ?_
    refine then_n ?_
    replace S := S.sub (l' := [(0, v0)]) (by exact ⟨rfl, trivial⟩)
    refine wp_seq ?_
    refine wp_region_lit ?_
    refine wl_pure (l' := [(4, .slice .none 0 0), (0, v0)]) S tys tys_ok 1 (by kernel_rfl) ?_
    clear S; intro a S
    refine wpList_nil ?_
    refine then_n ?_
    refine wp_seq ?_
    obtain ⟨y_14, ey_14, h⟩ := bindS h
    refine wp_cut_ (fun a_ w_ => ∃ s_15 : (List (Sl (Int))), y_14 = .inl s_15 ∧ (∃ (v_16 : Value), St 37 a_ [(4, v_16)] ∧ Wd w w_ [v_16.ownBlock] ∧ Ow (.sl (.int .u8)) 23 w_ w.heap.size (Kx K w.heap.size [v_16.ownBlock]) v_16 s_15 .none)) ?_ ?_
    · refine wp_block ?_
      refine wp_loop_n (fun m_ a_ w_ => ∃ (c_2 : List (Sl (Int))) (c_5 : Sl (Int)) , ∃ (v_3 : Value) (v_6 : Value), St 37 a_ [(4, v_3), (0, v_6)] ∧ Wd w w_ [v_3.ownBlock] ∧ RepV (.sl (.int .u8)) w_ (Kx K w.heap.size [v_3.ownBlock]) v_6 c_5 ∧ Ow (.sl (.int .u8)) 23 w_ w.heap.size (Kx K w.heap.size [v_3.ownBlock]) v_3 c_2 .none ∧ p12_l1 n m_ c_2 c_5 = some y_14) n ?_ ?_
      · skip
        replace R0 := R0.more
        replace W := W.more
        have O_20 : Ow (.sl (.int .u8)) 23 w w.heap.size (Kx K w.heap.size [.none]) (.slice .none 0 0) ([] : List (Sl (Int))) (some 0) := Ow.nil
        exact ⟨[], x0, ⟨(.slice .none 0 0), v0, S.sub (by exact ⟨rfl, rfl, trivial⟩), W, R0, O_20.forget, ey_14⟩⟩
      · clear S W; rintro m_18 a w_21 ⟨c_2, c_5, v_3, v_6, S, W, R_7, O_4, hl_19⟩
        cases m_18 with
        | zero => exact absurd hl_19 (by simp [p12_l1])
        | succ m_18 =>
          refine ⟨m_18, rfl, ?_⟩
          rw [p12_l1] at hl_19
          refine wp_seq ?_
          refine wp_seq ?_
          refine wp_region_lit ?_
          refine wl_pure (l' := [(9, v_6), (4, v_3), (0, v_6)]) S tys tys_ok 1 (by kernel_rfl) ?_
          clear S; intro a S
          refine w_go S rfl (op_len (K := _) S rfl ty23 rfl rfl rfl R_7 ?_)
          clear S; intro a G_22 S
          refine wl_pure (l' := [(11, .bool (decide ((lenI c_5) > 0))), (10, .int .i64 (lenI c_5)), (9, v_6), (4, v_3), (0, v_6)]) S tys tys_ok 1 (by kernel_rfl) ?_
          clear S; intro a S
          refine wpList_nil ?_
          refine then_n ?_
          replace S := S.sub (l' := [(11, .bool (decide ((lenI c_5) > 0))), (4, v_3), (0, v_6)]) (by exact ⟨rfl, rfl, rfl, trivial⟩)
          refine wp_cond_split (S.eval (show ev _ _ = some (.bool (decide ((lenI c_5) > 0))) from rfl)) ?_ ?_
          · intro hc
            rw [if_pos hc] at hl_19
            refine wp_skip ?_
            refine then_n ?_
            replace S := S.sub (l' := [(4, v_3), (0, v_6)]) (by exact ⟨rfl, rfl, trivial⟩)
            refine wp_block ?_
            refine wp_seq ?_
            refine wp_region_lit ?_
            refine wl_pure (l' := [(12, v_6), (4, v_3), (0, v_6)]) S tys tys_ok 1 (by kernel_rfl) ?_
            clear S; intro a S
            obtain ⟨y_23, ey_23, hl_19⟩ := bindS hl_19
            refine w_go S rfl (op_indexAddr S rfl ty23 rfl rfl rfl R_7 rfl ey_23 ?_)
            clear S; intro a p_24 R_25 H_26 S
            refine w_go S rfl (op_load (t := (.int .u8)) (x := y_23) S rfl ty5 rfl rfl rfl R_25 ?_)
            clear S; intro a v_27 R_28 S
            obtain ⟨rfl, GR_28⟩ := RepV.int R_28
            refine w_go S rfl (op_conv S .i64 .bool .bool rfl ty5 ty3 rfl rfl rfl (widen GR_28 (by decide)).1 ?_)
            clear S; intro a S
            refine wl_pure (l' := [(5, .int .i64 y_23), (15, .int .i64 y_23), (14, .int .u8 y_23), (13, .pointer (some p_24)), (12, v_6), (4, v_3), (0, v_6)]) S tys tys_ok 1 (by kernel_rfl) ?_
            clear S; intro a S
            refine wpList_nil ?_
            refine then_n ?_
            replace S := S.sub (l' := [(5, .int .i64 y_23), (4, v_3), (0, v_6)]) (by exact ⟨rfl, rfl, rfl, trivial⟩)
            refine wp_seq ?_
            refine wp_seq ?_
            refine wp_region_lit ?_
            refine wl_pure (l' := [(18, .bool (decide (y_23 < 2))), (17, .bool (decide (y_23 < 2))), (16, .int .i64 y_23), (5, .int .i64 y_23), (4, v_3), (0, v_6)]) S tys tys_ok 3 (by kernel_rfl) ?_
            clear S; intro a S
            obtain ⟨q_29, eq_29, hl_19⟩ := bindS hl_19
            refine seg 5 (fun a_ w_ => w_21 = w_ ∧ St 37 a_ [(23, .bool q_29), (5, .int .i64 y_23), (4, v_3), (0, v_6)]) ?_ ?_
            · by_cases hc : (decide (y_23 < 2)) = false
              · rw [if_pos hc] at eq_29; rw [hc] at S
                refine wl_pure (l' := [(20, v_6), (19, .int .i64 y_23), (18, .bool false), (17, .bool false), (16, .int .i64 y_23), (5, .int .i64 y_23), (4, v_3), (0, v_6)]) S tys tys_ok 2 (by kernel_rfl) ?_
                clear S; intro a S
                refine w_go S rfl (op_len (K := _) S rfl ty23 rfl rfl rfl R_7 ?_)
                clear S; intro a G_30 S
                refine wl_pure (l' := [(23, .bool (decide (y_23 > (lenI c_5)))), (22, .bool (decide (y_23 > (lenI c_5)))), (21, .int .i64 (lenI c_5)), (20, v_6), (19, .int .i64 y_23), (18, .bool false), (17, .bool false), (16, .int .i64 y_23), (5, .int .i64 y_23), (4, v_3), (0, v_6)]) S tys tys_ok 2 (by kernel_rfl) ?_
                clear S; intro a S
                obtain rfl := Option.some.inj eq_29
                exact ⟨rfl, S.sub (by exact ⟨rfl, rfl, rfl, rfl, trivial⟩)⟩
              · rw [if_neg hc] at eq_29; rw [show (decide (y_23 < 2)) = true from (by simpa using hc)] at S
                refine wl_pure (l' := [(23, .bool true), (22, undef), (21, undef), (20, undef), (19, undef), (18, .bool true), (17, .bool true), (16, .int .i64 y_23), (5, .int .i64 y_23), (4, v_3), (0, v_6)]) S tys tys_ok 5 (by kernel_rfl) ?_
                clear S; intro a S
                obtain rfl := Option.some.inj eq_29
                exact ⟨rfl, S.sub (by exact ⟨rfl, rfl, rfl, rfl, trivial⟩)⟩
            clear S eq_29; rintro a _ ⟨rfl, S⟩
            refine wpList_nil ?_
            refine then_n ?_
            refine wp_cond_split (S.eval (show ev _ _ = some (.bool q_29) from rfl)) ?_ ?_
            · intro hc
              rw [if_pos hc] at hl_19
              refine wp_seq ?_
              refine wp_region_lit ?_
              refine wl_pure (l' := [(3, .int .i64 4), (2, .slice .none 0 0), (23, .bool q_29), (5, .int .i64 y_23), (4, v_3), (0, v_6)]) S tys tys_ok 2 (by kernel_rfl) ?_
              clear S; intro a S
              refine wpList_nil ?_
              refine then_n ?_
              replace S := S.sub (l' := [(3, .int .i64 4), (2, .slice .none 0 0)]) (by exact ⟨rfl, rfl, trivial⟩)
              refine wp_ret ?_
              refine then_r ?_
              refine blk_r ?_
              refine then_r ?_
              refine blk_r ?_
              refine then_r ?_
              refine then_r ?_
              obtain rfl := Option.some.inj hl_19
              obtain rfl := lr_inr h
              exact b_ret2 S rfl rfl rfl ⟨_, _, rfl, RepV.nil, (RepV.mkInt (by decide)), W.below⟩
            · intro hc
              rw [if_neg (Bool.eq_false_iff.1 hc)] at hl_19
              refine wp_skip ?_
              refine then_n ?_
              replace S := S.sub (l' := [(5, .int .i64 y_23), (4, v_3), (0, v_6)]) (by exact ⟨rfl, rfl, rfl, trivial⟩)
              refine wp_seq ?_
              refine wp_region_lit ?_
              refine wl_pure (l' := [(26, .int .i64 y_23), (25, v_6), (24, v_3), (5, .int .i64 y_23), (4, v_3), (0, v_6)]) S tys tys_ok 3 (by kernel_rfl) ?_
              clear S; intro a S
              obtain ⟨s_33, es_33, hl_19⟩ := bindS hl_19
              refine w_go S rfl (op_slice S rfl ty23 rfl rfl rfl R_7 (.inl ⟨rfl, rfl⟩) (.inr ⟨_, _, rfl, rfl⟩) es_33 ?_)
              clear S; intro a v_31 R_32 S
              replace R_7 := R_7.more
              replace R_32 := R_32.more
              replace O_4 := O_4.more
              replace W := W.more
              have O_34 : Ow (.int .u8) 5 w_21 w.heap.size (Kx K w.heap.size [.none, v_3.ownBlock]) (.slice .none 0 0) ([] : List (Int)) (some 0) := Ow.nil
              obtain ⟨l_35, el_35, hl_19⟩ := bindS hl_19
              refine w_go S rfl (op_append S W (E := 5) 0 rfl ty23 un23 by23 rfl rfl rfl rfl O_34 rfl R_32 el_35 ?_)
              clear S; intro a w_37 v_36 A_38 O_39 S
              replace R_7 : RepV (.sl (.int .u8)) w_37 (Kx K w.heap.size [v_36.ownBlock, v_3.ownBlock]) v_6 c_5 := R_7.apd A_38 (i := 0) rfl
              replace R_32 : RepV (.sl (.int .u8)) w_37 (Kx K w.heap.size [v_36.ownBlock, v_3.ownBlock]) v_31 s_33 := R_32.apd A_38 (i := 0) rfl
              replace O_4 : Ow (.sl (.int .u8)) 23 w_37 w.heap.size (Kx K w.heap.size [v_36.ownBlock, v_3.ownBlock]) v_3 c_2 .none := O_4.apd W A_38 (i := 0) rfl (j := 1) rfl (by decide)
              replace W : Wd w w_37 [v_36.ownBlock, v_3.ownBlock] := W.apd A_38 (i := 0) rfl
              replace O_39 : Ow (.int .u8) 5 w_37 w.heap.size (Kx K w.heap.size [v_36.ownBlock, v_3.ownBlock]) v_36 l_35 (capA (some 0) l_35.length) := O_39
              have R_40 : RepV (.sl (.int .u8)) w_37 (Kx K w.heap.size [v_3.ownBlock]) v_36 (⟨l_35, capA (some 0) l_35.length⟩ : Sl (Int)) := O_39.pubAt W 0 rfl
              replace R_7 : RepV (.sl (.int .u8)) w_37 (Kx K w.heap.size [v_3.ownBlock]) v_6 c_5 := R_7.lessAt 0
              replace R_32 : RepV (.sl (.int .u8)) w_37 (Kx K w.heap.size [v_3.ownBlock]) v_31 s_33 := R_32.lessAt 0
              replace O_4 : Ow (.sl (.int .u8)) 23 w_37 w.heap.size (Kx K w.heap.size [v_3.ownBlock]) v_3 c_2 .none := O_4.lessAt 0
              replace W : Wd w w_37 [v_3.ownBlock] := W.lessAt 0
              obtain ⟨t_41, et_41, hl_19⟩ := bindS hl_19
              refine w_go S rfl (op_call (vs := [v_36]) S rfl cb36 rfl rfl rfl (c36 (Kx K w.heap.size [v_3.ownBlock]) n w_37 (⟨l_35, capA (some 0) l_35.length⟩ : Sl (Int)) _ R_40 et_41) ?_)
              rintro _ w_45 ⟨v_42, rfl, R_43, hb_44⟩; refine ⟨_, rfl, ?_⟩
              replace R_43 := RepV.back R_43 W
              clear S; intro a S
              replace R_7 := R_7.step hb_44
              replace R_32 := R_32.step hb_44
              replace R_40 := R_40.step hb_44
              replace O_4 := O_4.step hb_44
              replace W := W.step hb_44
              refine w_go S rfl (op_buildSlice (K := K) (e := (.sl (.int .u8))) (vs := [v_42]) (xs := [t_41]) S W rfl ty27 rfl rfl (by kernel_rfl) rfl rfl rfl rfl rfl ⟨R_43, trivial⟩ ?_)
              clear S; intro a w_49 v_46 hb_48 R_47 S
              replace R_7 := R_7.step hb_48
              replace R_32 := R_32.step hb_48
              replace R_40 := R_40.step hb_48
              replace R_43 := R_43.step hb_48
              replace O_4 := O_4.step hb_48
              replace W := W.step hb_48
              obtain ⟨l_50, el_50, hl_19⟩ := bindS hl_19
              refine w_go S rfl (op_append S W (E := 23) 0 rfl ty27 un27 by27 rfl rfl rfl rfl O_4 rfl R_47 el_50 ?_)
              clear S; intro a w_52 v_51 A_53 O_54 S
              replace R_7 : RepV (.sl (.int .u8)) w_52 (Kx K w.heap.size [v_51.ownBlock]) v_6 c_5 := R_7.apd A_53 (i := 0) rfl
              replace R_32 : RepV (.sl (.int .u8)) w_52 (Kx K w.heap.size [v_51.ownBlock]) v_31 s_33 := R_32.apd A_53 (i := 0) rfl
              replace R_40 : RepV (.sl (.int .u8)) w_52 (Kx K w.heap.size [v_51.ownBlock]) v_36 (⟨l_35, capA (some 0) l_35.length⟩ : Sl (Int)) := R_40.apd A_53 (i := 0) rfl
              replace R_43 : RepV (.sl (.int .u8)) w_52 (Kx K w.heap.size [v_51.ownBlock]) v_42 t_41 := R_43.apd A_53 (i := 0) rfl
              replace R_47 : RepV (.sl (.sl (.int .u8))) w_52 (Kx K w.heap.size [v_51.ownBlock]) v_46 (⟨[t_41], some 1⟩ : Sl (Sl (Int))) := R_47.apd A_53 (i := 0) rfl
              replace W : Wd w w_52 [v_51.ownBlock] := W.apd A_53 (i := 0) rfl
              replace O_54 : Ow (.sl (.int .u8)) 23 w_52 w.heap.size (Kx K w.heap.size [v_51.ownBlock]) v_51 l_50 (capA .none l_50.length) := O_54
              refine wl_pure (l' := [(4, v_51), (31, v_51), (30, v_46), (29, v_42), (28, v_36), (27, v_31), (26, .int .i64 y_23), (25, v_6), (24, v_3), (5, .int .i64 y_23), (4, v_3), (0, v_6)]) S tys tys_ok 1 (by kernel_rfl) ?_
              clear S; intro a S
              refine wpList_nil ?_
              refine then_n ?_
              replace S := S.sub (l' := [(4, v_51), (5, .int .i64 y_23), (0, v_6)]) (by exact ⟨rfl, rfl, rfl, trivial⟩)
              refine wp_region_lit ?_
              refine wl_pure (l' := [(33, .int .i64 y_23), (32, v_6), (4, v_51), (5, .int .i64 y_23), (0, v_6)]) S tys tys_ok 2 (by kernel_rfl) ?_
              clear S; intro a S
              obtain ⟨s_57, es_57, hl_19⟩ := bindS hl_19
              refine w_go S rfl (op_slice S rfl ty23 rfl rfl rfl R_7 (.inr ⟨_, _, rfl, rfl⟩) (.inl ⟨rfl, rfl⟩) es_57 ?_)
              clear S; intro a v_55 R_56 S
              refine wl_pure (l' := [(0, v_55), (34, v_55), (33, .int .i64 y_23), (32, v_6), (4, v_51), (5, .int .i64 y_23), (0, v_6)]) S tys tys_ok 1 (by kernel_rfl) ?_
              clear S; intro a S
              refine wpList_nil ?_
              refine blk_n ?_
              refine then_n ?_
              exact ⟨l_50, s_57, ⟨v_51, v_55, S.sub (by exact ⟨rfl, rfl, trivial⟩), W, R_56, O_54.forget, hl_19⟩⟩
          · intro hc
            rw [if_neg (Bool.eq_false_iff.1 hc)] at hl_19
            refine wp_exit ?_
            refine then_x ?_
            refine then_x ?_
            refine blk_hit ?_
            refine then_n ?_
            obtain rfl := Option.some.inj hl_19
            exact ⟨_, rfl, ⟨v_3, S.sub (by exact ⟨rfl, trivial⟩), W, O_4⟩⟩
    clear S W; rintro a w_58 ⟨s_15, rfl, v_16, S, W, O_17⟩
    replace h := lr_inl h; try dsimp only at h
    refine then_n ?_
    refine wp_seq ?_
    refine wp_region_lit ?_
    refine wl_pure (l' := [(35, v_16), (4, v_16)]) S tys tys_ok 1 (by kernel_rfl) ?_
    clear S; intro a S
    have R_59 : RepV (.sl (.sl (.int .u8))) w_58 (Kx K w.heap.size []) v_16 (⟨s_15, .none⟩ : Sl (Sl (Int))) := O_17.pubAt W 0 rfl
    replace W : Wd w w_58 [] := W.lessAt 0
    obtain ⟨t_60, et_60, h⟩ := bindS h
    refine w_go S rfl (op_call (vs := [v_16]) S rfl cb37 rfl rfl rfl (c37 (Kx K w.heap.size []) n w_58 (⟨s_15, .none⟩ : Sl (Sl (Int))) _ R_59 et_60) ?_)
    rintro _ w_64 ⟨v_61, rfl, R_62, hb_63⟩; refine ⟨_, rfl, ?_⟩
    replace R_62 := RepV.back R_62 W
    clear S; intro a S
    replace R_59 := R_59.step hb_63
    replace W := W.step hb_63
    refine wl_pure (l' := [(3, .int .i64 0), (2, v_61), (36, v_61), (35, v_16), (4, v_16)]) S tys tys_ok 2 (by kernel_rfl) ?_
    clear S; intro a S
    refine wpList_nil ?_
    refine then_n ?_
    replace S := S.sub (l' := [(3, .int .i64 0), (2, v_61)]) (by exact ⟨rfl, rfl, trivial⟩)
    refine wp_ret ?_
    obtain rfl := Option.some.inj h
    exact b_ret2 S rfl rfl rfl ⟨_, _, rfl, R_62.out, (RepV.mkInt (by decide)), W.below⟩
theorem cb12 : callB Try.prog 12 = true := by kernel_rfl

end Go.Proofs.Ytojifdijcanbpaa
