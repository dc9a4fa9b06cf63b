/- x. -/
import Derived.Test.YtojifdijcanbpaaQ1
set_option linter.unusedVariables false
set_option linter.unusedSimpArgs false
namespace Go.Proofs.Ytojifdijcanbpaa
open Go.RowKit

def p27_l1 (n : Nat) (x0 : Int × Int × Int × (Sl (Bool))) : Nat → (Int) → (Int) → Option ((Int))
  | 0, _, _ => .none
  | m + 1, c_20, c_22 => if (decide (c_20 < (lenI x0.2.2.2))) then ((idx x0.2.2.2.xs c_20).bind fun y_33 => (if y_33 then ((shlI .u8 2 c_20).bind fun x_41 => some (bitsI .or .u8 c_22 x_41)) else some c_22).bind fun (j_39 : (Int)) => (ckI .i64 (c_20 + 1)).bind fun x_43 => p27_l1 n x0 m x_43 j_39) else some c_22
def p27 (n : Nat) (x0 : Int × Int × Int × (Sl (Bool))) : Option ((Sl (Int)) × (Int)) :=
  (if (decide (x0.1 < 1)) = false then some (decide (x0.1 > 7)) else some true).bind fun q_7 =>
  (if q_7 = false then some ((lenI x0.2.2.2) != x0.1) else some true).bind fun q_10 =>
  if q_10 then (some ((⟨([] : List (Int)), some 0⟩ : Sl (Int)), 1)) else (p27_l1 n x0 n 0 0).bind fun (y_28 : (Int)) => (p41 n 41 (⟨[x0.1, 9, 0, x0.2.1, x0.2.2.1, y_28, 255], some 7⟩ : Sl (Int))).bind fun t_55 => some ((⟨t_55.xs, t_55.cap⟩ : Sl (Int)), 0)
set_option maxHeartbeats 4000000 in
set_option maxRecDepth 100000 in
/-- plugboard/descriptors.EncodeHub -/
theorem c27 (K : Nat → Prop) (n : Nat) (w : World) (x0 : Int × Int × Int × (Sl (Bool))) (v0 : Value) (R0 : RepV (.st (.pair (.int .u8) (.pair (.int .u8) (.pair (.int .u8) (.sl .bool))))) w K v0 x0) {r : (Sl (Int)) × (Int)} (h : p27 n x0 = some r) :
    Calls Try.prog 27 #[v0] w (fun e_ w_ => ∃ v0_ v1_ : Value, e_ = .returned (.tuple #[v0_, v1_]) ∧ Ow (.int .u8) 5 w_ w.heap.size (Kx K w.heap.size [v0_.ownBlock]) v0_ r.1.xs r.1.cap ∧ RepV (.int .i64) w_ (Kx K w.heap.size [v0_.ownBlock]) v1_ r.2 ∧ Below w.heap.size w w_) := by
  refine enter (args := [v0]) Try.func27 rfl 47 rfl rfl fun a S => ?_
  have W := Wd.start w
  replace R0 := R0.arg
  unfold p27 at h
  replace S : St 47 a [(0, v0)] := S
  refine wp_seq ?_
  refine wp_region_lit ?_
  refine w_go S rfl (op_box S rfl rfl rfl rfl rfl R0 ?_)
  clear S; intro a w_3 b_1 hb_4 B_2 S
  replace R0 := R0.box hb_4
  replace W := W.box hb_4
  refine wl_pure (l' := [(3, .int .i64 0), (2, .slice .none 0 0), (1, .pointer (some (⟨b_1, 0, .none⟩ : Addr))), (0, v0)]) S tys tys_ok 2 (by kernel_rfl) ?_
  clear S; intro a S
  refine wpList_nil ?_
  refine then_n ?_
  replace S := S.sub (l' := [(1, .pointer (some (⟨b_1, 0, .none⟩ : Addr)))]) (by exact ⟨rfl, trivial⟩)
  refine wp_seq ?_
  refine wp_seq ?_
  refine wp_region_lit ?_
  refine wl_pure (l' := [(7, .pointer (some ((⟨b_1, 0, .none⟩ : Addr).add (coff (.pair (.int .u8) (.pair (.int .u8) (.pair (.int .u8) (.sl .bool)))) 0)))), (1, .pointer (some (⟨b_1, 0, .none⟩ : Addr)))]) S tys tys_ok 1 (by kernel_rfl) ?_
  clear S; intro a S
  refine w_go S rfl (op_load (t := (.int .u8)) (x := x0.1) S rfl ty5 rfl rfl rfl (RepAt.add 0 (RepAt.st B_2.at_)) ?_)
  clear S; intro a v_5 R_6 S
  obtain ⟨rfl, GR_6⟩ := RepV.int R_6
  refine wl_pure (l' := [(10, .bool (decide (x0.1 < 1))), (9, .bool (decide (x0.1 < 1))), (8, .int .u8 x0.1), (7, .pointer (some ((⟨b_1, 0, .none⟩ : Addr).add (coff (.pair (.int .u8) (.pair (.int .u8) (.pair (.int .u8) (.sl .bool)))) 0)))), (1, .pointer (some (⟨b_1, 0, .none⟩ : Addr)))]) S tys tys_ok 2 (by kernel_rfl) ?_
  clear S; intro a S
  obtain ⟨q_7, eq_7, h⟩ := bindS h
  refine seg 4 (fun a_ w_ => w_3 = w_ ∧ St 47 a_ [(14, .bool q_7), (1, .pointer (some (⟨b_1, 0, .none⟩ : Addr)))]) ?_ ?_
  · by_cases hc : (decide (x0.1 < 1)) = false
    · rw [if_pos hc] at eq_7; rw [hc] at S
      refine wl_pure (l' := [(11, .pointer (some ((⟨b_1, 0, .none⟩ : Addr).add (coff (.pair (.int .u8) (.pair (.int .u8) (.pair (.int .u8) (.sl .bool)))) 0)))), (10, .bool false), (9, .bool false), (8, .int .u8 x0.1), (7, .pointer (some ((⟨b_1, 0, .none⟩ : Addr).add (coff (.pair (.int .u8) (.pair (.int .u8) (.pair (.int .u8) (.sl .bool)))) 0)))), (1, .pointer (some (⟨b_1, 0, .none⟩ : Addr)))]) S tys tys_ok 1 (by kernel_rfl) ?_
      clear S; intro a S
      refine w_go S rfl (op_load (t := (.int .u8)) (x := x0.1) S rfl ty5 rfl rfl rfl (RepAt.add 0 (RepAt.st B_2.at_)) ?_)
      clear S; intro a v_8 R_9 S
      obtain ⟨rfl, GR_9⟩ := RepV.int R_9
      refine wl_pure (l' := [(14, .bool (decide (x0.1 > 7))), (13, .bool (decide (x0.1 > 7))), (12, .int .u8 x0.1), (11, .pointer (some ((⟨b_1, 0, .none⟩ : Addr).add (coff (.pair (.int .u8) (.pair (.int .u8) (.pair (.int .u8) (.sl .bool)))) 0)))), (10, .bool false), (9, .bool false), (8, .int .u8 x0.1), (7, .pointer (some ((⟨b_1, 0, .none⟩ : Addr).add (coff (.pair (.int .u8) (.pair (.int .u8) (.pair (.int .u8) (.sl .bool)))) 0)))), (1, .pointer (some (⟨b_1, 0, .none⟩ : Addr)))]) S tys tys_ok 2 (by kernel_rfl) ?_
      clear S; intro a S
      obtain rfl := Option.some.inj eq_7
      exact ⟨rfl, S.sub (by exact ⟨rfl, rfl, trivial⟩)⟩
    · rw [if_neg hc] at eq_7; rw [show (decide (x0.1 < 1)) = true from (by simpa using hc)] at S
      refine wl_pure (l' := [(14, .bool true), (13, undef), (12, undef), (11, undef), (10, .bool true), (9, .bool true), (8, .int .u8 x0.1), (7, .pointer (some ((⟨b_1, 0, .none⟩ : Addr).add (coff (.pair (.int .u8) (.pair (.int .u8) (.pair (.int .u8) (.sl .bool)))) 0)))), (1, .pointer (some (⟨b_1, 0, .none⟩ : Addr)))]) S tys tys_ok 4 (by kernel_rfl) ?_
      clear S; intro a S
      obtain rfl := Option.some.inj eq_7
      exact ⟨rfl, S.sub (by exact ⟨rfl, rfl, trivial⟩)⟩
  clear S eq_7; rintro a _ ⟨rfl, S⟩
  refine wl_pure (l' := [(15, .bool q_7), (14, .bool q_7), (1, .pointer (some (⟨b_1, 0, .none⟩ : Addr)))]) S tys tys_ok 1 (by kernel_rfl) ?_
  clear S; intro a S
  obtain ⟨q_10, eq_10, h⟩ := bindS h
  refine seg 8 (fun a_ w_ => w_3 = w_ ∧ St 47 a_ [(23, .bool q_10), (1, .pointer (some (⟨b_1, 0, .none⟩ : Addr)))]) ?_ ?_
  · by_cases hc : q_7 = false
    · rw [if_pos hc] at eq_10; rw [hc] at S
      refine wl_pure (l' := [(16, .pointer (some ((⟨b_1, 0, .none⟩ : Addr).add (coff (.pair (.int .u8) (.pair (.int .u8) (.pair (.int .u8) (.sl .bool)))) 3)))), (15, .bool false), (14, .bool false), (1, .pointer (some (⟨b_1, 0, .none⟩ : Addr)))]) S tys tys_ok 1 (by kernel_rfl) ?_
      clear S; intro a S
      refine w_go S rfl (op_load (t := (.sl .bool)) (x := x0.2.2.2) S rfl ty64 rfl rfl rfl (RepAt.add 3 (RepAt.st B_2.at_)) ?_)
      clear S; intro a v_11 R_12 S
      refine w_go S rfl (op_len (K := _) S rfl ty64 rfl rfl rfl R_12 ?_)
      clear S; intro a G_13 S
      refine wl_pure (l' := [(19, .pointer (some ((⟨b_1, 0, .none⟩ : Addr).add (coff (.pair (.int .u8) (.pair (.int .u8) (.pair (.int .u8) (.sl .bool)))) 0)))), (18, .int .i64 (lenI x0.2.2.2)), (17, v_11), (16, .pointer (some ((⟨b_1, 0, .none⟩ : Addr).add (coff (.pair (.int .u8) (.pair (.int .u8) (.pair (.int .u8) (.sl .bool)))) 3)))), (15, .bool false), (14, .bool false), (1, .pointer (some (⟨b_1, 0, .none⟩ : Addr)))]) S tys tys_ok 1 (by kernel_rfl) ?_
      clear S; intro a S
      refine w_go S rfl (op_load (t := (.int .u8)) (x := x0.1) S rfl ty5 rfl rfl rfl (RepAt.add 0 (RepAt.st B_2.at_)) ?_)
      clear S; intro a v_14 R_15 S
      obtain ⟨rfl, GR_15⟩ := RepV.int R_15
      refine w_go S rfl (op_conv S .i64 .bool .bool rfl ty5 ty3 rfl rfl rfl (widen GR_15 (by decide)).1 ?_)
      clear S; intro a S
      refine wl_pure (l' := [(23, .bool ((lenI x0.2.2.2) != x0.1)), (22, .bool ((lenI x0.2.2.2) != x0.1)), (21, .int .i64 x0.1), (20, .int .u8 x0.1), (19, .pointer (some ((⟨b_1, 0, .none⟩ : Addr).add (coff (.pair (.int .u8) (.pair (.int .u8) (.pair (.int .u8) (.sl .bool)))) 0)))), (18, .int .i64 (lenI x0.2.2.2)), (17, v_11), (16, .pointer (some ((⟨b_1, 0, .none⟩ : Addr).add (coff (.pair (.int .u8) (.pair (.int .u8) (.pair (.int .u8) (.sl .bool)))) 3)))), (15, .bool false), (14, .bool false), (1, .pointer (some (⟨b_1, 0, .none⟩ : Addr)))]) S tys tys_ok 2 (by kernel_rfl) ?_
      clear S; intro a S
      obtain rfl := Option.some.inj eq_10
      exact ⟨rfl, S.sub (by exact ⟨rfl, rfl, trivial⟩)⟩
    · rw [if_neg hc] at eq_10; rw [show q_7 = true from (by simpa using hc)] at S
      refine wl_pure (l' := [(23, .bool true), (22, undef), (21, undef), (20, undef), (19, undef), (18, undef), (17, undef), (16, undef), (15, .bool true), (14, .bool true), (1, .pointer (some (⟨b_1, 0, .none⟩ : Addr)))]) S tys tys_ok 8 (by kernel_rfl) ?_
      clear S; intro a S
      obtain rfl := Option.some.inj eq_10
      exact ⟨rfl, S.sub (by exact ⟨rfl, rfl, trivial⟩)⟩
  clear S eq_10; rintro a _ ⟨rfl, S⟩
  refine wpList_nil ?_
  refine then_n ?_
  refine wp_cond_split (S.eval (show ev _ _ = some (.bool q_10) from rfl)) ?_ ?_
  · intro hc
    rw [if_pos hc] at h
    refine wp_seq ?_
    refine wp_region_lit ?_
    refine wl_pure (l' := [(3, .int .i64 1), (2, .slice .none 0 0), (23, .bool q_10), (1, .pointer (some (⟨b_1, 0, .none⟩ : Addr)))]) S tys tys_ok 2 (by kernel_rfl) ?_
    clear S; intro a S
    refine wpList_nil ?_
    refine then_n ?_
    replace S := S.sub (l' := [(3, .int .i64 1), (2, .slice .none 0 0)]) (by exact ⟨rfl, rfl, trivial⟩)
    refine wp_ret ?_
    refine then_r ?_
    replace B_2 := B_2.more
    replace W := W.more
    have O_16 : Ow (.int .u8) 5 w_3 w.heap.size (Kx K w.heap.size [.none, some b_1]) (.slice .none 0 0) ([] : List (Int)) (some 0) := Ow.nil
    obtain rfl := Option.some.inj h
    exact b_ret2 S rfl rfl rfl ⟨_, _, rfl, (O_16.lessO 0 rfl), (RepV.mkInt (by decide)), W.below⟩
  · intro hc
    rw [if_neg (Bool.eq_false_iff.1 hc)] at h
    refine wp_skip ?_
    refine then_n ?_
    replace S := S.sub (l' := [(1, .pointer (some (⟨b_1, 0, .none⟩ : Addr)))]) (by exact ⟨rfl, trivial⟩)
    refine wp_seq ?_
    refine wp_region_lit ?_
    refine wl_pure (l' := [(4, .int .u8 0), (1, .pointer (some (⟨b_1, 0, .none⟩ : Addr)))]) S tys tys_ok 1 (by kernel_rfl) ?_
    clear S; intro a S
    refine wpList_nil ?_
    refine then_n ?_
    refine wp_seq ?_
    refine wp_seq ?_
    refine wp_region_lit ?_
    refine wl_pure (l' := [(24, .pointer (some ((⟨b_1, 0, .none⟩ : Addr).add (coff (.pair (.int .u8) (.pair (.int .u8) (.pair (.int .u8) (.sl .bool)))) 3)))), (4, .int .u8 0), (1, .pointer (some (⟨b_1, 0, .none⟩ : Addr)))]) S tys tys_ok 1 (by kernel_rfl) ?_
    clear S; intro a S
    refine w_go S rfl (op_load (t := (.sl .bool)) (x := x0.2.2.2) S rfl ty64 rfl rfl rfl (RepAt.add 3 (RepAt.st B_2.at_)) ?_)
    clear S; intro a v_17 R_18 S
    refine w_go S rfl (op_len (K := _) S rfl ty64 rfl rfl rfl R_18 ?_)
    clear S; intro a G_19 S
    refine wl_pure (l' := [(27, .int .i64 0), (26, .int .i64 (lenI x0.2.2.2)), (25, v_17), (24, .pointer (some ((⟨b_1, 0, .none⟩ : Addr).add (coff (.pair (.int .u8) (.pair (.int .u8) (.pair (.int .u8) (.sl .bool)))) 3)))), (4, .int .u8 0), (1, .pointer (some (⟨b_1, 0, .none⟩ : Addr)))]) S tys tys_ok 1 (by kernel_rfl) ?_
    clear S; intro a S
    refine wpList_nil ?_
    refine then_n ?_
    replace S := S.sub (l' := [(27, .int .i64 0), (26, .int .i64 (lenI x0.2.2.2)), (25, v_17), (4, .int .u8 0), (1, .pointer (some (⟨b_1, 0, .none⟩ : Addr)))]) (by exact ⟨rfl, rfl, rfl, rfl, rfl, trivial⟩)
    obtain ⟨y_28, ey_28, h⟩ := bindS h
    refine wp_cut_ (fun a_ w_ => St 47 a_ [(1, .pointer (some (⟨b_1, 0, .none⟩ : Addr))), (4, .int .u8 y_28)] ∧ Wd w w_ [some b_1] ∧ InR .u8 y_28 ∧ Bx (.st (.pair (.int .u8) (.pair (.int .u8) (.pair (.int .u8) (.sl .bool))))) 66 w_ (Kx K w.heap.size [some b_1]) b_1 x0) ?_ ?_
    · refine wp_block ?_
      refine wp_loop_n (fun m_ a_ w_ => ∃ (c_20 : Int) (c_22 : Int) , St 47 a_ [(27, .int .i64 c_20), (26, .int .i64 (lenI x0.2.2.2)), (25, v_17), (4, .int .u8 c_22), (1, .pointer (some (⟨b_1, 0, .none⟩ : Addr)))] ∧ Wd w w_ [some b_1] ∧ InR .i64 c_20 ∧ InR .u8 c_22 ∧ RepV (.sl .bool) w_ (Kx K w.heap.size [some b_1]) v_17 x0.2.2.2 ∧ Bx (.st (.pair (.int .u8) (.pair (.int .u8) (.pair (.int .u8) (.sl .bool))))) 66 w_ (Kx K w.heap.size [some b_1]) b_1 x0 ∧ p27_l1 n x0 m_ c_20 c_22 = some y_28) n ?_ ?_
      · skip
        exact ⟨0, 0, ⟨S.sub (by exact ⟨rfl, rfl, rfl, rfl, rfl, trivial⟩), W, (by decide), (by decide), R_18, B_2, ey_28⟩⟩
      · clear S W; rintro m_30 a w_32 ⟨c_20, c_22, S, W, G_21, G_23, R_18, B_2, hl_31⟩
        cases m_30 with
        | zero => exact absurd hl_31 (by simp [p27_l1])
        | succ m_30 =>
          refine ⟨m_30, rfl, ?_⟩
          rw [p27_l1] at hl_31
          refine wp_seq ?_
          refine wp_region_lit ?_
          refine wl_pure (l' := [(28, .bool (decide (c_20 < (lenI x0.2.2.2)))), (27, .int .i64 c_20), (26, .int .i64 (lenI x0.2.2.2)), (25, v_17), (4, .int .u8 c_22), (1, .pointer (some (⟨b_1, 0, .none⟩ : Addr)))]) S tys tys_ok 1 (by kernel_rfl) ?_
          clear S; intro a S
          refine wpList_nil ?_
          refine then_n ?_
          refine wp_seq ?_
          refine wp_cond_split (S.eval (show ev _ _ = some (.bool (decide (c_20 < (lenI x0.2.2.2)))) from rfl)) ?_ ?_
          · intro hc
            rw [if_pos hc] at hl_31
            refine wp_skip ?_
            refine then_n ?_
            replace S := S.sub (l' := [(27, .int .i64 c_20), (26, .int .i64 (lenI x0.2.2.2)), (25, v_17), (4, .int .u8 c_22), (1, .pointer (some (⟨b_1, 0, .none⟩ : Addr)))]) (by exact ⟨rfl, rfl, rfl, rfl, rfl, trivial⟩)
            refine wp_seq ?_
            refine wp_block ?_
            refine wp_seq ?_
            refine wp_region_lit ?_
            refine wl_pure (l' := [(29, .int .i64 c_20), (27, .int .i64 c_20), (26, .int .i64 (lenI x0.2.2.2)), (25, v_17), (4, .int .u8 c_22), (1, .pointer (some (⟨b_1, 0, .none⟩ : Addr)))]) S tys tys_ok 1 (by kernel_rfl) ?_
            clear S; intro a S
            obtain ⟨y_33, ey_33, hl_31⟩ := bindS hl_31
            refine w_go S rfl (op_indexAddr S rfl ty64 rfl rfl rfl R_18 rfl ey_33 ?_)
            clear S; intro a p_34 R_35 H_36 S
            refine w_go S rfl (op_load (t := .bool) (x := y_33) S rfl ty4 rfl rfl rfl R_35 ?_)
            clear S; intro a v_37 R_38 S
            obtain rfl := RepV.bool R_38
            refine wl_pure (l' := [(6, .bool y_33), (5, .int .i64 c_20), (31, .bool y_33), (30, .pointer (some p_34)), (29, .int .i64 c_20), (27, .int .i64 c_20), (26, .int .i64 (lenI x0.2.2.2)), (25, v_17), (4, .int .u8 c_22), (1, .pointer (some (⟨b_1, 0, .none⟩ : Addr)))]) S tys tys_ok 2 (by kernel_rfl) ?_
            clear S; intro a S
            refine wpList_nil ?_
            refine then_n ?_
            replace S := S.sub (l' := [(6, .bool y_33), (5, .int .i64 c_20), (27, .int .i64 c_20), (26, .int .i64 (lenI x0.2.2.2)), (25, v_17), (4, .int .u8 c_22), (1, .pointer (some (⟨b_1, 0, .none⟩ : Addr)))]) (by exact ⟨rfl, rfl, rfl, rfl, rfl, rfl, rfl, trivial⟩)
            refine wp_seq ?_
            refine wp_region_lit ?_
            refine wl_pure (l' := [(32, .bool y_33), (6, .bool y_33), (5, .int .i64 c_20), (27, .int .i64 c_20), (26, .int .i64 (lenI x0.2.2.2)), (25, v_17), (4, .int .u8 c_22), (1, .pointer (some (⟨b_1, 0, .none⟩ : Addr)))]) S tys tys_ok 1 (by kernel_rfl) ?_
            clear S; intro a S
            refine wpList_nil ?_
            refine then_n ?_
            replace S := S.sub (l' := [(32, .bool y_33), (5, .int .i64 c_20), (27, .int .i64 c_20), (26, .int .i64 (lenI x0.2.2.2)), (25, v_17), (4, .int .u8 c_22), (1, .pointer (some (⟨b_1, 0, .none⟩ : Addr)))]) (by exact ⟨rfl, rfl, rfl, rfl, rfl, rfl, rfl, trivial⟩)
            obtain ⟨j_39, ej_39, hl_31⟩ := bindS hl_31
            refine wp_cut_ (fun a_ w_ => St 47 a_ [(27, .int .i64 c_20), (26, .int .i64 (lenI x0.2.2.2)), (25, v_17), (4, .int .u8 j_39), (1, .pointer (some (⟨b_1, 0, .none⟩ : Addr)))] ∧ Wd w w_ [some b_1] ∧ InR .u8 j_39 ∧ RepV (.sl .bool) w_ (Kx K w.heap.size [some b_1]) v_17 x0.2.2.2 ∧ Bx (.st (.pair (.int .u8) (.pair (.int .u8) (.pair (.int .u8) (.sl .bool))))) 66 w_ (Kx K w.heap.size [some b_1]) b_1 x0) ?_ ?_
            · refine wp_cond_split (S.eval (show ev _ _ = some (.bool y_33) from rfl)) ?_ ?_
              · intro hc
                rw [if_pos hc] at ej_39
                refine wp_region_lit ?_
                refine wl_pure (l' := [(34, .int .i64 c_20), (33, .int .u8 c_22), (32, .bool y_33), (5, .int .i64 c_20), (27, .int .i64 c_20), (26, .int .i64 (lenI x0.2.2.2)), (25, v_17), (4, .int .u8 c_22), (1, .pointer (some (⟨b_1, 0, .none⟩ : Addr)))]) S tys tys_ok 2 (by kernel_rfl) ?_
                clear S; intro a S
                obtain ⟨x_41, ex_41, ej_39⟩ := bindS ej_39
                refine w_go S rfl (op_shl S .u8 .i64 rfl rfl rfl rfl rfl ex_41 ?_)
                clear S; intro a S
                refine wl_pure (l' := [(4, .int .u8 (bitsI .or .u8 c_22 x_41)), (36, .int .u8 (bitsI .or .u8 c_22 x_41)), (35, .int .u8 x_41), (34, .int .i64 c_20), (33, .int .u8 c_22), (32, .bool y_33), (5, .int .i64 c_20), (27, .int .i64 c_20), (26, .int .i64 (lenI x0.2.2.2)), (25, v_17), (4, .int .u8 c_22), (1, .pointer (some (⟨b_1, 0, .none⟩ : Addr)))]) S tys tys_ok 2 (by kernel_rfl) ?_
                clear S; intro a S
                refine wpList_nil ?_
                refine then_n ?_
                obtain rfl := Option.some.inj ej_39
                exact ⟨S.sub (by exact ⟨rfl, rfl, rfl, rfl, rfl, trivial⟩), W, inR_bits, R_18, B_2⟩
              · intro hc
                rw [if_neg (Bool.eq_false_iff.1 hc)] at ej_39
                refine wp_skip ?_
                refine then_n ?_
                obtain rfl := Option.some.inj ej_39
                exact ⟨S.sub (by exact ⟨rfl, rfl, rfl, rfl, rfl, trivial⟩), W, G_23, R_18, B_2⟩
            clear S W; rintro a w_42 ⟨S, W, G_40, R_18, B_2⟩
            refine blk_n ?_
            refine then_n ?_
            refine wp_region_lit ?_
            obtain ⟨x_43, ex_43, hl_31⟩ := bindS hl_31
            refine w_go S rfl (op_arith S .i64 (c_20 + 1) rfl (.inl rfl) rfl rfl rfl rfl ex_43 ?_)
            clear S; intro a S
            refine wl_pure (l' := [(27, .int .i64 x_43), (37, .int .i64 x_43), (27, .int .i64 c_20), (26, .int .i64 (lenI x0.2.2.2)), (25, v_17), (4, .int .u8 j_39), (1, .pointer (some (⟨b_1, 0, .none⟩ : Addr)))]) S tys tys_ok 1 (by kernel_rfl) ?_
            clear S; intro a S
            refine wpList_nil ?_
            refine then_n ?_
            exact ⟨x_43, j_39, ⟨S.sub (by exact ⟨rfl, rfl, rfl, rfl, rfl, trivial⟩), W, (ckI_some ex_43).2.1, G_40, R_18, B_2, hl_31⟩⟩
          · intro hc
            rw [if_neg (Bool.eq_false_iff.1 hc)] at hl_31
            refine wp_exit ?_
            refine then_x ?_
            refine then_x ?_
            refine blk_hit ?_
            refine then_n ?_
            obtain rfl := Option.some.inj hl_31
            exact ⟨S.sub (by exact ⟨rfl, rfl, trivial⟩), W, G_23, B_2⟩
    clear S W; rintro a w_44 ⟨S, W, G_29, B_2⟩
    refine then_n ?_
    refine wp_seq ?_
    refine wp_region_lit ?_
    refine wl_pure (l' := [(38, .pointer (some ((⟨b_1, 0, .none⟩ : Addr).add (coff (.pair (.int .u8) (.pair (.int .u8) (.pair (.int .u8) (.sl .bool)))) 0)))), (1, .pointer (some (⟨b_1, 0, .none⟩ : Addr))), (4, .int .u8 y_28)]) S tys tys_ok 1 (by kernel_rfl) ?_
    clear S; intro a S
    refine w_go S rfl (op_load (t := (.int .u8)) (x := x0.1) S rfl ty5 rfl rfl rfl (RepAt.add 0 (RepAt.st B_2.at_)) ?_)
    clear S; intro a v_45 R_46 S
    obtain ⟨rfl, GR_46⟩ := RepV.int R_46
    refine wl_pure (l' := [(40, .pointer (some ((⟨b_1, 0, .none⟩ : Addr).add (coff (.pair (.int .u8) (.pair (.int .u8) (.pair (.int .u8) (.sl .bool)))) 1)))), (39, .int .u8 x0.1), (38, .pointer (some ((⟨b_1, 0, .none⟩ : Addr).add (coff (.pair (.int .u8) (.pair (.int .u8) (.pair (.int .u8) (.sl .bool)))) 0)))), (1, .pointer (some (⟨b_1, 0, .none⟩ : Addr))), (4, .int .u8 y_28)]) S tys tys_ok 1 (by kernel_rfl) ?_
    clear S; intro a S
    refine w_go S rfl (op_load (t := (.int .u8)) (x := x0.2.1) S rfl ty5 rfl rfl rfl (RepAt.add 1 (RepAt.st B_2.at_)) ?_)
    clear S; intro a v_47 R_48 S
    obtain ⟨rfl, GR_48⟩ := RepV.int R_48
    refine wl_pure (l' := [(42, .pointer (some ((⟨b_1, 0, .none⟩ : Addr).add (coff (.pair (.int .u8) (.pair (.int .u8) (.pair (.int .u8) (.sl .bool)))) 2)))), (41, .int .u8 x0.2.1), (40, .pointer (some ((⟨b_1, 0, .none⟩ : Addr).add (coff (.pair (.int .u8) (.pair (.int .u8) (.pair (.int .u8) (.sl .bool)))) 1)))), (39, .int .u8 x0.1), (38, .pointer (some ((⟨b_1, 0, .none⟩ : Addr).add (coff (.pair (.int .u8) (.pair (.int .u8) (.pair (.int .u8) (.sl .bool)))) 0)))), (1, .pointer (some (⟨b_1, 0, .none⟩ : Addr))), (4, .int .u8 y_28)]) S tys tys_ok 1 (by kernel_rfl) ?_
    clear S; intro a S
    refine w_go S rfl (op_load (t := (.int .u8)) (x := x0.2.2.1) S rfl ty5 rfl rfl rfl (RepAt.add 2 (RepAt.st B_2.at_)) ?_)
    clear S; intro a v_49 R_50 S
    obtain ⟨rfl, GR_50⟩ := RepV.int R_50
    refine wl_pure (l' := [(44, .int .u8 y_28), (43, .int .u8 x0.2.2.1), (42, .pointer (some ((⟨b_1, 0, .none⟩ : Addr).add (coff (.pair (.int .u8) (.pair (.int .u8) (.pair (.int .u8) (.sl .bool)))) 2)))), (41, .int .u8 x0.2.1), (40, .pointer (some ((⟨b_1, 0, .none⟩ : Addr).add (coff (.pair (.int .u8) (.pair (.int .u8) (.pair (.int .u8) (.sl .bool)))) 1)))), (39, .int .u8 x0.1), (38, .pointer (some ((⟨b_1, 0, .none⟩ : Addr).add (coff (.pair (.int .u8) (.pair (.int .u8) (.pair (.int .u8) (.sl .bool)))) 0)))), (1, .pointer (some (⟨b_1, 0, .none⟩ : Addr))), (4, .int .u8 y_28)]) S tys tys_ok 1 (by kernel_rfl) ?_
    clear S; intro a S
    refine w_go S rfl (op_buildSlice (K := K) (e := (.int .u8)) (vs := [.int .u8 x0.1, .int .u8 9, .int .u8 0, .int .u8 x0.2.1, .int .u8 x0.2.2.1, .int .u8 y_28, .int .u8 255]) (xs := [x0.1, 9, 0, x0.2.1, x0.2.2.1, y_28, 255]) S W rfl ty23 rfl rfl (by kernel_rfl) rfl rfl rfl rfl rfl ⟨(RepV.mkInt GR_46), (RepV.mkInt (by decide)), (RepV.mkInt (by decide)), (RepV.mkInt GR_48), (RepV.mkInt GR_50), (RepV.mkInt G_29), (RepV.mkInt (by decide)), trivial⟩ ?_)
    clear S; intro a w_54 v_51 hb_53 R_52 S
    replace B_2 := B_2.step hb_53
    replace W := W.step hb_53
    obtain ⟨t_55, et_55, h⟩ := bindS h
    refine w_go S rfl (op_call (vs := [.int .u8 41, v_51]) S rfl cb41 rfl rfl rfl (c41 (Kx K w.heap.size [some b_1]) n w_54 41 (by decide) (⟨[x0.1, 9, 0, x0.2.1, x0.2.2.1, y_28, 255], some 7⟩ : Sl (Int)) _ R_52 et_55) ?_)
    rintro _ w_59 ⟨v_56, rfl, R_57, hb_58⟩; refine ⟨_, rfl, ?_⟩
    have NO_ := newO_of R_57 (Nat.le_refl _) hb_58
    replace R_57 := Ow.backO R_57 W
    clear S; intro a S
    replace R_52 := R_52.newO NO_
    replace B_2 := B_2.newO NO_
    replace W := W.newO NO_
    clear NO_
    refine wl_pure (l' := [(3, .int .i64 0), (2, v_56), (46, v_56), (45, v_51), (44, .int .u8 y_28), (43, .int .u8 x0.2.2.1), (42, .pointer (some ((⟨b_1, 0, .none⟩ : Addr).add (coff (.pair (.int .u8) (.pair (.int .u8) (.pair (.int .u8) (.sl .bool)))) 2)))), (41, .int .u8 x0.2.1), (40, .pointer (some ((⟨b_1, 0, .none⟩ : Addr).add (coff (.pair (.int .u8) (.pair (.int .u8) (.pair (.int .u8) (.sl .bool)))) 1)))), (39, .int .u8 x0.1), (38, .pointer (some ((⟨b_1, 0, .none⟩ : Addr).add (coff (.pair (.int .u8) (.pair (.int .u8) (.pair (.int .u8) (.sl .bool)))) 0)))), (1, .pointer (some (⟨b_1, 0, .none⟩ : Addr))), (4, .int .u8 y_28)]) S tys tys_ok 2 (by kernel_rfl) ?_
    clear S; intro a S
    refine wpList_nil ?_
    refine then_n ?_
    replace S := S.sub (l' := [(3, .int .i64 0), (2, v_56)]) (by exact ⟨rfl, rfl, trivial⟩)
    refine wp_ret ?_
    obtain rfl := Option.some.inj h
    exact b_ret2 S rfl rfl rfl ⟨_, _, rfl, (R_57.lessO 0 rfl), (RepV.mkInt (by decide)), W.below⟩
theorem cb27 : callB Try.prog 27 = true := by kernel_rfl
def p28_l1 (n : Nat) (x0 : Int × Int × Int × (Sl (Bool))) : Nat → (Int) → (Int) → (Int) → Option ((Int))
  | 0, _, _, _ => .none
  | m + 1, c_16, c_18, c_20 => if (decide (c_16 < (lenI x0.2.2.2))) then ((idx x0.2.2.2.xs c_16).bind fun y_38 => (if y_38 then (some (IntKind.wrap .u8 (c_20 + c_18))) else some c_20).bind fun (j_44 : (Int)) => (ckI .i64 (c_16 + 1)).bind fun x_47 => p28_l1 n x0 m x_47 (IntKind.wrap .u8 (c_18 * 2)) j_44) else some c_20
def p28 (n : Nat) (x0 : Int × Int × Int × (Sl (Bool))) : Option ((List Int)) :=
  (if (decide (x0.1 < 1)) = false then some (decide (x0.1 > 7)) else some true).bind fun q_7 =>
  (if q_7 = false then some ((lenI x0.2.2.2) != x0.1) else some true).bind fun q_10 =>
  if q_10 then (some ([])) else (p28_l1 n x0 n 0 2 0).bind fun (y_28 : (Int)) => some ((⟨[9, 41, x0.1, 9, 0, x0.2.1, x0.2.2.1, y_28, 255], some 9⟩ : Sl (Int)).xs)
set_option maxHeartbeats 4000000 in
set_option maxRecDepth 100000 in
/-- plugboard/plugboardlaw13.hub -/
theorem c28 (K : Nat → Prop) (n : Nat) (w : World) (x0 : Int × Int × Int × (Sl (Bool))) (v0 : Value) (R0 : RepV (.st (.pair (.int .u8) (.pair (.int .u8) (.pair (.int .u8) (.sl .bool))))) w K v0 x0) {r : (List Int)} (h : p28 n x0 = some r) :
    Calls Try.prog 28 #[v0] w (Ret1 .str w (Kx K w.heap.size []) r) := by
  refine enter (args := [v0]) Try.func28 rfl 49 rfl rfl fun a S => ?_
  have W := Wd.start w
  replace R0 := R0.arg
  unfold p28 at h
  replace S : St 49 a [(0, v0)] := S
  refine wp_seq ?_
  refine wp_region_lit ?_
  refine w_go S rfl (op_box S rfl rfl rfl rfl rfl R0 ?_)
  clear S; intro a w_3 b_1 hb_4 B_2 S
  replace R0 := R0.box hb_4
  replace W := W.box hb_4
  refine wl_pure (l' := [(2, .string (strOfNums ([]))), (1, .pointer (some (⟨b_1, 0, .none⟩ : Addr))), (0, v0)]) S tys tys_ok 1 (by kernel_rfl) ?_
  clear S; intro a S
  refine wpList_nil ?_
  refine then_n ?_
  replace S := S.sub (l' := [(1, .pointer (some (⟨b_1, 0, .none⟩ : Addr)))]) (by exact ⟨rfl, trivial⟩)
  refine wp_seq ?_
  refine wp_seq ?_
  refine wp_region_lit ?_
  refine wl_pure (l' := [(6, .pointer (some ((⟨b_1, 0, .none⟩ : Addr).add (coff (.pair (.int .u8) (.pair (.int .u8) (.pair (.int .u8) (.sl .bool)))) 0)))), (1, .pointer (some (⟨b_1, 0, .none⟩ : Addr)))]) S tys tys_ok 1 (by kernel_rfl) ?_
  clear S; intro a S
  refine w_go S rfl (op_load (t := (.int .u8)) (x := x0.1) S rfl ty5 rfl rfl rfl (RepAt.add 0 (RepAt.st B_2.at_)) ?_)
  clear S; intro a v_5 R_6 S
  obtain ⟨rfl, GR_6⟩ := RepV.int R_6
  refine wl_pure (l' := [(9, .bool (decide (x0.1 < 1))), (8, .bool (decide (x0.1 < 1))), (7, .int .u8 x0.1), (6, .pointer (some ((⟨b_1, 0, .none⟩ : Addr).add (coff (.pair (.int .u8) (.pair (.int .u8) (.pair (.int .u8) (.sl .bool)))) 0)))), (1, .pointer (some (⟨b_1, 0, .none⟩ : Addr)))]) S tys tys_ok 2 (by kernel_rfl) ?_
  clear S; intro a S
  obtain ⟨q_7, eq_7, h⟩ := bindS h
  refine seg 4 (fun a_ w_ => w_3 = w_ ∧ St 49 a_ [(13, .bool q_7), (1, .pointer (some (⟨b_1, 0, .none⟩ : Addr)))]) ?_ ?_
  · by_cases hc : (decide (x0.1 < 1)) = false
    · rw [if_pos hc] at eq_7; rw [hc] at S
      refine wl_pure (l' := [(10, .pointer (some ((⟨b_1, 0, .none⟩ : Addr).add (coff (.pair (.int .u8) (.pair (.int .u8) (.pair (.int .u8) (.sl .bool)))) 0)))), (9, .bool false), (8, .bool false), (7, .int .u8 x0.1), (6, .pointer (some ((⟨b_1, 0, .none⟩ : Addr).add (coff (.pair (.int .u8) (.pair (.int .u8) (.pair (.int .u8) (.sl .bool)))) 0)))), (1, .pointer (some (⟨b_1, 0, .none⟩ : Addr)))]) S tys tys_ok 1 (by kernel_rfl) ?_
      clear S; intro a S
      refine w_go S rfl (op_load (t := (.int .u8)) (x := x0.1) S rfl ty5 rfl rfl rfl (RepAt.add 0 (RepAt.st B_2.at_)) ?_)
      clear S; intro a v_8 R_9 S
      obtain ⟨rfl, GR_9⟩ := RepV.int R_9
      refine wl_pure (l' := [(13, .bool (decide (x0.1 > 7))), (12, .bool (decide (x0.1 > 7))), (11, .int .u8 x0.1), (10, .pointer (some ((⟨b_1, 0, .none⟩ : Addr).add (coff (.pair (.int .u8) (.pair (.int .u8) (.pair (.int .u8) (.sl .bool)))) 0)))), (9, .bool false), (8, .bool false), (7, .int .u8 x0.1), (6, .pointer (some ((⟨b_1, 0, .none⟩ : Addr).add (coff (.pair (.int .u8) (.pair (.int .u8) (.pair (.int .u8) (.sl .bool)))) 0)))), (1, .pointer (some (⟨b_1, 0, .none⟩ : Addr)))]) S tys tys_ok 2 (by kernel_rfl) ?_
      clear S; intro a S
      obtain rfl := Option.some.inj eq_7
      exact ⟨rfl, S.sub (by exact ⟨rfl, rfl, trivial⟩)⟩
    · rw [if_neg hc] at eq_7; rw [show (decide (x0.1 < 1)) = true from (by simpa using hc)] at S
      refine wl_pure (l' := [(13, .bool true), (12, undef), (11, undef), (10, undef), (9, .bool true), (8, .bool true), (7, .int .u8 x0.1), (6, .pointer (some ((⟨b_1, 0, .none⟩ : Addr).add (coff (.pair (.int .u8) (.pair (.int .u8) (.pair (.int .u8) (.sl .bool)))) 0)))), (1, .pointer (some (⟨b_1, 0, .none⟩ : Addr)))]) S tys tys_ok 4 (by kernel_rfl) ?_
      clear S; intro a S
      obtain rfl := Option.some.inj eq_7
      exact ⟨rfl, S.sub (by exact ⟨rfl, rfl, trivial⟩)⟩
  clear S eq_7; rintro a _ ⟨rfl, S⟩
  refine wl_pure (l' := [(14, .bool q_7), (13, .bool q_7), (1, .pointer (some (⟨b_1, 0, .none⟩ : Addr)))]) S tys tys_ok 1 (by kernel_rfl) ?_
  clear S; intro a S
  obtain ⟨q_10, eq_10, h⟩ := bindS h
  refine seg 8 (fun a_ w_ => w_3 = w_ ∧ St 49 a_ [(22, .bool q_10), (1, .pointer (some (⟨b_1, 0, .none⟩ : Addr)))]) ?_ ?_
  · by_cases hc : q_7 = false
    · rw [if_pos hc] at eq_10; rw [hc] at S
      refine wl_pure (l' := [(15, .pointer (some ((⟨b_1, 0, .none⟩ : Addr).add (coff (.pair (.int .u8) (.pair (.int .u8) (.pair (.int .u8) (.sl .bool)))) 3)))), (14, .bool false), (13, .bool false), (1, .pointer (some (⟨b_1, 0, .none⟩ : Addr)))]) S tys tys_ok 1 (by kernel_rfl) ?_
      clear S; intro a S
      refine w_go S rfl (op_load (t := (.sl .bool)) (x := x0.2.2.2) S rfl ty64 rfl rfl rfl (RepAt.add 3 (RepAt.st B_2.at_)) ?_)
      clear S; intro a v_11 R_12 S
      refine w_go S rfl (op_len (K := _) S rfl ty64 rfl rfl rfl R_12 ?_)
      clear S; intro a G_13 S
      refine wl_pure (l' := [(18, .pointer (some ((⟨b_1, 0, .none⟩ : Addr).add (coff (.pair (.int .u8) (.pair (.int .u8) (.pair (.int .u8) (.sl .bool)))) 0)))), (17, .int .i64 (lenI x0.2.2.2)), (16, v_11), (15, .pointer (some ((⟨b_1, 0, .none⟩ : Addr).add (coff (.pair (.int .u8) (.pair (.int .u8) (.pair (.int .u8) (.sl .bool)))) 3)))), (14, .bool false), (13, .bool false), (1, .pointer (some (⟨b_1, 0, .none⟩ : Addr)))]) S tys tys_ok 1 (by kernel_rfl) ?_
      clear S; intro a S
      refine w_go S rfl (op_load (t := (.int .u8)) (x := x0.1) S rfl ty5 rfl rfl rfl (RepAt.add 0 (RepAt.st B_2.at_)) ?_)
      clear S; intro a v_14 R_15 S
      obtain ⟨rfl, GR_15⟩ := RepV.int R_15
      refine w_go S rfl (op_conv S .i64 .bool .bool rfl ty5 ty3 rfl rfl rfl (widen GR_15 (by decide)).1 ?_)
      clear S; intro a S
      refine wl_pure (l' := [(22, .bool ((lenI x0.2.2.2) != x0.1)), (21, .bool ((lenI x0.2.2.2) != x0.1)), (20, .int .i64 x0.1), (19, .int .u8 x0.1), (18, .pointer (some ((⟨b_1, 0, .none⟩ : Addr).add (coff (.pair (.int .u8) (.pair (.int .u8) (.pair (.int .u8) (.sl .bool)))) 0)))), (17, .int .i64 (lenI x0.2.2.2)), (16, v_11), (15, .pointer (some ((⟨b_1, 0, .none⟩ : Addr).add (coff (.pair (.int .u8) (.pair (.int .u8) (.pair (.int .u8) (.sl .bool)))) 3)))), (14, .bool false), (13, .bool false), (1, .pointer (some (⟨b_1, 0, .none⟩ : Addr)))]) S tys tys_ok 2 (by kernel_rfl) ?_
      clear S; intro a S
      obtain rfl := Option.some.inj eq_10
      exact ⟨rfl, S.sub (by exact ⟨rfl, rfl, trivial⟩)⟩
    · rw [if_neg hc] at eq_10; rw [show q_7 = true from (by simpa using hc)] at S
      refine wl_pure (l' := [(22, .bool true), (21, undef), (20, undef), (19, undef), (18, undef), (17, undef), (16, undef), (15, undef), (14, .bool true), (13, .bool true), (1, .pointer (some (⟨b_1, 0, .none⟩ : Addr)))]) S tys tys_ok 8 (by kernel_rfl) ?_
      clear S; intro a S
      obtain rfl := Option.some.inj eq_10
      exact ⟨rfl, S.sub (by exact ⟨rfl, rfl, trivial⟩)⟩
  clear S eq_10; rintro a _ ⟨rfl, S⟩
  refine wpList_nil ?_
  refine then_n ?_
  refine wp_cond_split (S.eval (show ev _ _ = some (.bool q_10) from rfl)) ?_ ?_
  · intro hc
    rw [if_pos hc] at h
    refine wp_seq ?_
    refine wp_region_lit ?_
    refine wl_pure (l' := [(2, .string (strOfNums ([]))), (22, .bool q_10), (1, .pointer (some (⟨b_1, 0, .none⟩ : Addr)))]) S tys tys_ok 1 (by kernel_rfl) ?_
    clear S; intro a S
    refine wpList_nil ?_
    refine then_n ?_
    replace S := S.sub (l' := [(2, .string (strOfNums ([])))]) (by exact ⟨rfl, trivial⟩)
    refine wp_ret ?_
    refine then_r ?_
    obtain rfl := Option.some.inj h
    exact b_ret1 S rfl rfl ⟨_, rfl, (RepV.mkStr (strG ([]) (by decide) (by decide))), W.below⟩
  · intro hc
    rw [if_neg (Bool.eq_false_iff.1 hc)] at h
    refine wp_skip ?_
    refine then_n ?_
    replace S := S.sub (l' := [(1, .pointer (some (⟨b_1, 0, .none⟩ : Addr)))]) (by exact ⟨rfl, trivial⟩)
    refine wp_seq ?_
    refine wp_region_lit ?_
    refine wl_pure (l' := [(4, .int .u8 2), (3, .int .u8 0), (1, .pointer (some (⟨b_1, 0, .none⟩ : Addr)))]) S tys tys_ok 2 (by kernel_rfl) ?_
    clear S; intro a S
    refine wpList_nil ?_
    refine then_n ?_
    refine wp_seq ?_
    refine wp_seq ?_
    refine wp_region_lit ?_
    refine wl_pure (l' := [(5, .int .i64 0), (4, .int .u8 2), (3, .int .u8 0), (1, .pointer (some (⟨b_1, 0, .none⟩ : Addr)))]) S tys tys_ok 1 (by kernel_rfl) ?_
    clear S; intro a S
    refine wpList_nil ?_
    refine then_n ?_
    obtain ⟨y_28, ey_28, h⟩ := bindS h
    refine wp_cut_ (fun a_ w_ => St 49 a_ [(1, .pointer (some (⟨b_1, 0, .none⟩ : Addr))), (3, .int .u8 y_28)] ∧ Wd w w_ [some b_1] ∧ InR .u8 y_28 ∧ Bx (.st (.pair (.int .u8) (.pair (.int .u8) (.pair (.int .u8) (.sl .bool))))) 66 w_ (Kx K w.heap.size [some b_1]) b_1 x0) ?_ ?_
    · refine wp_block ?_
      refine wp_loop_n (fun m_ a_ w_ => ∃ (c_16 : Int) (c_18 : Int) (c_20 : Int) , St 49 a_ [(5, .int .i64 c_16), (4, .int .u8 c_18), (3, .int .u8 c_20), (1, .pointer (some (⟨b_1, 0, .none⟩ : Addr)))] ∧ Wd w w_ [some b_1] ∧ InR .i64 c_16 ∧ InR .u8 c_18 ∧ InR .u8 c_20 ∧ Bx (.st (.pair (.int .u8) (.pair (.int .u8) (.pair (.int .u8) (.sl .bool))))) 66 w_ (Kx K w.heap.size [some b_1]) b_1 x0 ∧ p28_l1 n x0 m_ c_16 c_18 c_20 = some y_28) n ?_ ?_
      · skip
        exact ⟨0, 2, 0, ⟨S.sub (by exact ⟨rfl, rfl, rfl, rfl, trivial⟩), W, (by decide), (by decide), (by decide), B_2, ey_28⟩⟩
      · clear S W; rintro m_30 a w_32 ⟨c_16, c_18, c_20, S, W, G_17, G_19, G_21, B_2, hl_31⟩
        cases m_30 with
        | zero => exact absurd hl_31 (by simp [p28_l1])
        | succ m_30 =>
          refine ⟨m_30, rfl, ?_⟩
          rw [p28_l1] at hl_31
          refine wp_seq ?_
          refine wp_seq ?_
          refine wp_region_lit ?_
          refine wl_pure (l' := [(24, .pointer (some ((⟨b_1, 0, .none⟩ : Addr).add (coff (.pair (.int .u8) (.pair (.int .u8) (.pair (.int .u8) (.sl .bool)))) 3)))), (23, .int .i64 c_16), (5, .int .i64 c_16), (4, .int .u8 c_18), (3, .int .u8 c_20), (1, .pointer (some (⟨b_1, 0, .none⟩ : Addr)))]) S tys tys_ok 2 (by kernel_rfl) ?_
          clear S; intro a S
          refine w_go S rfl (op_load (t := (.sl .bool)) (x := x0.2.2.2) S rfl ty64 rfl rfl rfl (RepAt.add 3 (RepAt.st B_2.at_)) ?_)
          clear S; intro a v_33 R_34 S
          refine w_go S rfl (op_len (K := _) S rfl ty64 rfl rfl rfl R_34 ?_)
          clear S; intro a G_35 S
          refine wl_pure (l' := [(27, .bool (decide (c_16 < (lenI x0.2.2.2)))), (26, .int .i64 (lenI x0.2.2.2)), (25, v_33), (24, .pointer (some ((⟨b_1, 0, .none⟩ : Addr).add (coff (.pair (.int .u8) (.pair (.int .u8) (.pair (.int .u8) (.sl .bool)))) 3)))), (23, .int .i64 c_16), (5, .int .i64 c_16), (4, .int .u8 c_18), (3, .int .u8 c_20), (1, .pointer (some (⟨b_1, 0, .none⟩ : Addr)))]) S tys tys_ok 1 (by kernel_rfl) ?_
          clear S; intro a S
          refine wpList_nil ?_
          refine then_n ?_
          replace S := S.sub (l' := [(27, .bool (decide (c_16 < (lenI x0.2.2.2)))), (5, .int .i64 c_16), (4, .int .u8 c_18), (3, .int .u8 c_20), (1, .pointer (some (⟨b_1, 0, .none⟩ : Addr)))]) (by exact ⟨rfl, rfl, rfl, rfl, rfl, trivial⟩)
          refine wp_cond_split (S.eval (show ev _ _ = some (.bool (decide (c_16 < (lenI x0.2.2.2)))) from rfl)) ?_ ?_
          · intro hc
            rw [if_pos hc] at hl_31
            refine wp_skip ?_
            refine then_n ?_
            replace S := S.sub (l' := [(5, .int .i64 c_16), (4, .int .u8 c_18), (3, .int .u8 c_20), (1, .pointer (some (⟨b_1, 0, .none⟩ : Addr)))]) (by exact ⟨rfl, rfl, rfl, rfl, trivial⟩)
            refine wp_seq ?_
            refine wp_block ?_
            refine wp_seq ?_
            refine wp_seq ?_
            refine wp_region_lit ?_
            refine wl_pure (l' := [(30, .pointer (some ((⟨b_1, 0, .none⟩ : Addr).add (coff (.pair (.int .u8) (.pair (.int .u8) (.pair (.int .u8) (.sl .bool)))) 3)))), (5, .int .i64 c_16), (4, .int .u8 c_18), (3, .int .u8 c_20), (1, .pointer (some (⟨b_1, 0, .none⟩ : Addr)))]) S tys tys_ok 1 (by kernel_rfl) ?_
            clear S; intro a S
            refine w_go S rfl (op_load (t := (.sl .bool)) (x := x0.2.2.2) S rfl ty64 rfl rfl rfl (RepAt.add 3 (RepAt.st B_2.at_)) ?_)
            clear S; intro a v_36 R_37 S
            refine wl_pure (l' := [(32, .int .i64 c_16), (31, v_36), (30, .pointer (some ((⟨b_1, 0, .none⟩ : Addr).add (coff (.pair (.int .u8) (.pair (.int .u8) (.pair (.int .u8) (.sl .bool)))) 3)))), (5, .int .i64 c_16), (4, .int .u8 c_18), (3, .int .u8 c_20), (1, .pointer (some (⟨b_1, 0, .none⟩ : Addr)))]) S tys tys_ok 1 (by kernel_rfl) ?_
            clear S; intro a S
            obtain ⟨y_38, ey_38, hl_31⟩ := bindS hl_31
            refine w_go S rfl (op_indexAddr S rfl ty64 rfl rfl rfl R_37 rfl ey_38 ?_)
            clear S; intro a p_39 R_40 H_41 S
            refine w_go S rfl (op_load (t := .bool) (x := y_38) S rfl ty4 rfl rfl rfl R_40 ?_)
            clear S; intro a v_42 R_43 S
            obtain rfl := RepV.bool R_43
            refine wpList_nil ?_
            refine then_n ?_
            replace S := S.sub (l' := [(34, .bool y_38), (5, .int .i64 c_16), (4, .int .u8 c_18), (3, .int .u8 c_20), (1, .pointer (some (⟨b_1, 0, .none⟩ : Addr)))]) (by exact ⟨rfl, rfl, rfl, rfl, rfl, trivial⟩)
            obtain ⟨j_44, ej_44, hl_31⟩ := bindS hl_31
            refine wp_cut_ (fun a_ w_ => St 49 a_ [(5, .int .i64 c_16), (4, .int .u8 c_18), (3, .int .u8 j_44), (1, .pointer (some (⟨b_1, 0, .none⟩ : Addr)))] ∧ Wd w w_ [some b_1] ∧ InR .u8 j_44 ∧ Bx (.st (.pair (.int .u8) (.pair (.int .u8) (.pair (.int .u8) (.sl .bool))))) 66 w_ (Kx K w.heap.size [some b_1]) b_1 x0) ?_ ?_
            · refine wp_cond_split (S.eval (show ev _ _ = some (.bool y_38) from rfl)) ?_ ?_
              · intro hc
                rw [if_pos hc] at ej_44
                refine wp_region_lit ?_
                refine wl_pure (l' := [(3, .int .u8 (IntKind.wrap .u8 (c_20 + c_18))), (37, .int .u8 (IntKind.wrap .u8 (c_20 + c_18))), (36, .int .u8 c_18), (35, .int .u8 c_20), (34, .bool y_38), (5, .int .i64 c_16), (4, .int .u8 c_18), (3, .int .u8 c_20), (1, .pointer (some (⟨b_1, 0, .none⟩ : Addr)))]) S tys tys_ok 4 (by kernel_rfl) ?_
                clear S; intro a S
                refine wpList_nil ?_
                refine then_n ?_
                obtain rfl := Option.some.inj ej_44
                exact ⟨S.sub (by exact ⟨rfl, rfl, rfl, rfl, trivial⟩), W, (inR_wrap _ _), B_2⟩
              · intro hc
                rw [if_neg (Bool.eq_false_iff.1 hc)] at ej_44
                refine wp_skip ?_
                refine then_n ?_
                obtain rfl := Option.some.inj ej_44
                exact ⟨S.sub (by exact ⟨rfl, rfl, rfl, rfl, trivial⟩), W, G_21, B_2⟩
            clear S W; rintro a w_46 ⟨S, W, G_45, B_2⟩
            refine then_n ?_
            refine wp_region_lit ?_
            refine wl_pure (l' := [(4, .int .u8 (IntKind.wrap .u8 (c_18 * 2))), (39, .int .u8 (IntKind.wrap .u8 (c_18 * 2))), (38, .int .u8 c_18), (5, .int .i64 c_16), (4, .int .u8 c_18), (3, .int .u8 j_44), (1, .pointer (some (⟨b_1, 0, .none⟩ : Addr)))]) S tys tys_ok 3 (by kernel_rfl) ?_
            clear S; intro a S
            refine wpList_nil ?_
            refine blk_n ?_
            refine then_n ?_
            replace S := S.sub (l' := [(4, .int .u8 (IntKind.wrap .u8 (c_18 * 2))), (5, .int .i64 c_16), (3, .int .u8 j_44), (1, .pointer (some (⟨b_1, 0, .none⟩ : Addr)))]) (by exact ⟨rfl, rfl, rfl, rfl, trivial⟩)
            refine wp_region_lit ?_
            refine wl_pure (l' := [(28, .int .i64 c_16), (4, .int .u8 (IntKind.wrap .u8 (c_18 * 2))), (5, .int .i64 c_16), (3, .int .u8 j_44), (1, .pointer (some (⟨b_1, 0, .none⟩ : Addr)))]) S tys tys_ok 1 (by kernel_rfl) ?_
            clear S; intro a S
            obtain ⟨x_47, ex_47, hl_31⟩ := bindS hl_31
            refine w_go S rfl (op_arith S .i64 (c_16 + 1) rfl (.inl rfl) rfl rfl rfl rfl ex_47 ?_)
            clear S; intro a S
            refine wl_pure (l' := [(5, .int .i64 x_47), (29, .int .i64 x_47), (28, .int .i64 c_16), (4, .int .u8 (IntKind.wrap .u8 (c_18 * 2))), (5, .int .i64 c_16), (3, .int .u8 j_44), (1, .pointer (some (⟨b_1, 0, .none⟩ : Addr)))]) S tys tys_ok 1 (by kernel_rfl) ?_
            clear S; intro a S
            refine wpList_nil ?_
            refine then_n ?_
            exact ⟨x_47, IntKind.wrap .u8 (c_18 * 2), j_44, ⟨S.sub (by exact ⟨rfl, rfl, rfl, rfl, trivial⟩), W, (ckI_some ex_47).2.1, (inR_wrap _ _), G_45, B_2, hl_31⟩⟩
          · intro hc
            rw [if_neg (Bool.eq_false_iff.1 hc)] at hl_31
            refine wp_exit ?_
            refine then_x ?_
            refine then_x ?_
            refine blk_hit ?_
            refine then_n ?_
            obtain rfl := Option.some.inj hl_31
            exact ⟨S.sub (by exact ⟨rfl, rfl, trivial⟩), W, G_21, B_2⟩
    clear S W; rintro a w_48 ⟨S, W, G_29, B_2⟩
    refine then_n ?_
    refine wp_seq ?_
    refine wp_region_lit ?_
    refine wl_pure (l' := [(40, .pointer (some ((⟨b_1, 0, .none⟩ : Addr).add (coff (.pair (.int .u8) (.pair (.int .u8) (.pair (.int .u8) (.sl .bool)))) 0)))), (1, .pointer (some (⟨b_1, 0, .none⟩ : Addr))), (3, .int .u8 y_28)]) S tys tys_ok 1 (by kernel_rfl) ?_
    clear S; intro a S
    refine w_go S rfl (op_load (t := (.int .u8)) (x := x0.1) S rfl ty5 rfl rfl rfl (RepAt.add 0 (RepAt.st B_2.at_)) ?_)
    clear S; intro a v_49 R_50 S
    obtain ⟨rfl, GR_50⟩ := RepV.int R_50
    refine wl_pure (l' := [(42, .pointer (some ((⟨b_1, 0, .none⟩ : Addr).add (coff (.pair (.int .u8) (.pair (.int .u8) (.pair (.int .u8) (.sl .bool)))) 1)))), (41, .int .u8 x0.1), (40, .pointer (some ((⟨b_1, 0, .none⟩ : Addr).add (coff (.pair (.int .u8) (.pair (.int .u8) (.pair (.int .u8) (.sl .bool)))) 0)))), (1, .pointer (some (⟨b_1, 0, .none⟩ : Addr))), (3, .int .u8 y_28)]) S tys tys_ok 1 (by kernel_rfl) ?_
    clear S; intro a S
    refine w_go S rfl (op_load (t := (.int .u8)) (x := x0.2.1) S rfl ty5 rfl rfl rfl (RepAt.add 1 (RepAt.st B_2.at_)) ?_)
    clear S; intro a v_51 R_52 S
    obtain ⟨rfl, GR_52⟩ := RepV.int R_52
    refine wl_pure (l' := [(44, .pointer (some ((⟨b_1, 0, .none⟩ : Addr).add (coff (.pair (.int .u8) (.pair (.int .u8) (.pair (.int .u8) (.sl .bool)))) 2)))), (43, .int .u8 x0.2.1), (42, .pointer (some ((⟨b_1, 0, .none⟩ : Addr).add (coff (.pair (.int .u8) (.pair (.int .u8) (.pair (.int .u8) (.sl .bool)))) 1)))), (41, .int .u8 x0.1), (40, .pointer (some ((⟨b_1, 0, .none⟩ : Addr).add (coff (.pair (.int .u8) (.pair (.int .u8) (.pair (.int .u8) (.sl .bool)))) 0)))), (1, .pointer (some (⟨b_1, 0, .none⟩ : Addr))), (3, .int .u8 y_28)]) S tys tys_ok 1 (by kernel_rfl) ?_
    clear S; intro a S
    refine w_go S rfl (op_load (t := (.int .u8)) (x := x0.2.2.1) S rfl ty5 rfl rfl rfl (RepAt.add 2 (RepAt.st B_2.at_)) ?_)
    clear S; intro a v_53 R_54 S
    obtain ⟨rfl, GR_54⟩ := RepV.int R_54
    refine wl_pure (l' := [(46, .int .u8 y_28), (45, .int .u8 x0.2.2.1), (44, .pointer (some ((⟨b_1, 0, .none⟩ : Addr).add (coff (.pair (.int .u8) (.pair (.int .u8) (.pair (.int .u8) (.sl .bool)))) 2)))), (43, .int .u8 x0.2.1), (42, .pointer (some ((⟨b_1, 0, .none⟩ : Addr).add (coff (.pair (.int .u8) (.pair (.int .u8) (.pair (.int .u8) (.sl .bool)))) 1)))), (41, .int .u8 x0.1), (40, .pointer (some ((⟨b_1, 0, .none⟩ : Addr).add (coff (.pair (.int .u8) (.pair (.int .u8) (.pair (.int .u8) (.sl .bool)))) 0)))), (1, .pointer (some (⟨b_1, 0, .none⟩ : Addr))), (3, .int .u8 y_28)]) S tys tys_ok 1 (by kernel_rfl) ?_
    clear S; intro a S
    refine w_go S rfl (op_buildSlice (K := K) (e := (.int .u8)) (vs := [.int .u8 9, .int .u8 41, .int .u8 x0.1, .int .u8 9, .int .u8 0, .int .u8 x0.2.1, .int .u8 x0.2.2.1, .int .u8 y_28, .int .u8 255]) (xs := [9, 41, x0.1, 9, 0, x0.2.1, x0.2.2.1, y_28, 255]) S W rfl ty23 rfl rfl (by kernel_rfl) rfl rfl rfl rfl rfl ⟨(RepV.mkInt (by decide)), (RepV.mkInt (by decide)), (RepV.mkInt GR_50), (RepV.mkInt (by decide)), (RepV.mkInt (by decide)), (RepV.mkInt GR_52), (RepV.mkInt GR_54), (RepV.mkInt G_29), (RepV.mkInt (by decide)), trivial⟩ ?_)
    clear S; intro a w_58 v_55 hb_57 R_56 S
    replace B_2 := B_2.step hb_57
    replace W := W.step hb_57
    refine w_go S rfl (op_str (K := _) S rfl ty23 ty9 rfl rfl rfl R_56 ?_)
    clear S; intro a S
    refine wl_pure (l' := [(2, .string (strOfNums ((⟨[9, 41, x0.1, 9, 0, x0.2.1, x0.2.2.1, y_28, 255], some 9⟩ : Sl (Int)).xs))), (48, .string (strOfNums ((⟨[9, 41, x0.1, 9, 0, x0.2.1, x0.2.2.1, y_28, 255], some 9⟩ : Sl (Int)).xs))), (47, v_55), (46, .int .u8 y_28), (45, .int .u8 x0.2.2.1), (44, .pointer (some ((⟨b_1, 0, .none⟩ : Addr).add (coff (.pair (.int .u8) (.pair (.int .u8) (.pair (.int .u8) (.sl .bool)))) 2)))), (43, .int .u8 x0.2.1), (42, .pointer (some ((⟨b_1, 0, .none⟩ : Addr).add (coff (.pair (.int .u8) (.pair (.int .u8) (.pair (.int .u8) (.sl .bool)))) 1)))), (41, .int .u8 x0.1), (40, .pointer (some ((⟨b_1, 0, .none⟩ : Addr).add (coff (.pair (.int .u8) (.pair (.int .u8) (.pair (.int .u8) (.sl .bool)))) 0)))), (1, .pointer (some (⟨b_1, 0, .none⟩ : Addr))), (3, .int .u8 y_28)]) S tys tys_ok 1 (by kernel_rfl) ?_
    clear S; intro a S
    refine wpList_nil ?_
    refine then_n ?_
    replace S := S.sub (l' := [(2, .string (strOfNums ((⟨[9, 41, x0.1, 9, 0, x0.2.1, x0.2.2.1, y_28, 255], some 9⟩ : Sl (Int)).xs)))]) (by exact ⟨rfl, trivial⟩)
    refine wp_ret ?_
    obtain rfl := Option.some.inj h
    exact b_ret1 S rfl rfl ⟨_, rfl, (RepV.mkStr R_56.byt), W.below⟩
theorem cb28 : callB Try.prog 28 = true := by kernel_rfl
def p50_l1 (n : Nat) (x0 : Sl (Int)) (m_29 : Nat × Nat) : Nat → (Int) → (List (Bool)) → Option ((List (Bool)))
  | 0, _, _ => .none
  | m + 1, c_168, c_170 => if (decide (c_168 < (lenI (⟨(List.replicate m_29.1 (false : Bool)), some m_29.2⟩ : Sl (Bool))))) then ((idx x0.xs 7).bind fun y_186 => (ckI .i64 (c_168 + 1)).bind fun x_192 => (shrI y_186 x_192 .u8).bind fun x_193 => (idx c_170 c_168).bind fun y_247 => (ckI .i64 (c_168 + 1)).bind fun x_255 => p50_l1 n x0 m_29 m x_255 (c_170.set c_168.toNat ((bitsI .and .u8 x_193 1) != 0))) else some c_170
def p50 (n : Nat) (x0 : Sl (Int)) : Option ((Int × Int × Int × (Sl (Bool)))) :=
  (idx x0.xs 2).bind fun y_5 =>
  (idx x0.xs 5).bind fun y_11 =>
  (idx x0.xs 6).bind fun y_17 =>
  (idx x0.xs 2).bind fun y_23 =>
  (mkI (if 7 < y_23 then 7 else y_23) (if 7 < y_23 then 7 else y_23)).bind fun m_29 =>
  (p50_l1 n x0 m_29 n 0 (List.replicate m_29.1 (false : Bool))).bind fun (y_178 : (List (Bool))) =>
  some (y_5, y_11, y_17, (⟨y_178, some m_29.2⟩ : Sl (Bool)))
set_option maxHeartbeats 4000000 in
set_option maxRecDepth 100000 in
/-- plugboard/descriptors.DecodeHub$1 -/
theorem c50 (K : Nat → Prop) (n : Nat) (w : World) (x0 : Sl (Int)) (v0 : Value) (R0 : RepV (.sl (.int .u8)) w K v0 x0) {r : (Int × Int × Int × (Sl (Bool)))} (h : p50 n x0 = some r) :
    Calls Try.prog 50 #[v0] w (Ret1 (.st (.pair (.int .u8) (.pair (.int .u8) (.pair (.int .u8) (.sl .bool))))) w (Kx K w.heap.size []) r) := by
  refine enter (args := [v0]) Try.func50 rfl 40 rfl rfl fun a S => ?_
  have W := Wd.start w
  replace R0 := R0.arg
  unfold p50 at h
  replace S : St 40 a [(0, v0)] := S
  refine wp_seq ?_
  refine wp_region_lit ?_
  refine w_go S rfl (op_alloc (K := K) (n := w.heap.size) (L := []) (t := (.st (.pair (.int .u8) (.pair (.int .u8) (.pair (.int .u8) .raw))))) (y := (0, 0, 0, (.slice .none 0 0))) S rfl rfl rfl _ z66 (fun w K => ⟨[.int .u8 0], [.int .u8 0, .int .u8 0, .slice .none 0 0], rfl, ⟨rfl, by decide⟩, ⟨[.int .u8 0], [.int .u8 0, .slice .none 0 0], rfl, ⟨rfl, by decide⟩, ⟨[.int .u8 0], [.slice .none 0 0], rfl, ⟨rfl, by decide⟩, ⟨rfl, _, _, _, rfl⟩⟩⟩⟩) ?_)
  clear S; intro a w_3 b_1 hb_4 B_2 S
  replace R0 := R0.box hb_4
  replace W := W.box hb_4
  refine wpList_nil ?_
  refine then_n ?_
  refine wp_seq ?_
  obtain ⟨y_5, ey_5, h⟩ := bindS h
  obtain ⟨y_11, ey_11, h⟩ := bindS h
  obtain ⟨y_17, ey_17, h⟩ := bindS h
  obtain ⟨y_23, ey_23, h⟩ := bindS h
  obtain ⟨m_29, em_29, h⟩ := bindS h
  refine wp_region_lay 16 [16, 16, 16, 16, 16, 16, 16, 16, 16, 16, 16, 16, 16, 16, 16, 16] w [13, 15] [some b_1] [isRepG (.sl (.int .u8)) K w.heap.size [13, 15] [some b_1] x0, isElG (.int .u8) K w.heap.size [13, 15] [some b_1] y_5, isIG .u8 y_5, isRepG (.sl (.int .u8)) K w.heap.size [13, 15] [some b_1] x0, isElG (.int .u8) K w.heap.size [13, 15] [some b_1] y_11, isIG .u8 y_11, isRepG (.sl (.int .u8)) K w.heap.size [13, 15] [some b_1] x0, isElG (.int .u8) K w.heap.size [13, 15] [some b_1] y_17, isIG .u8 y_17, isRepG (.sl (.int .u8)) K w.heap.size [13, 15] [some b_1] x0, isElG (.int .u8) K w.heap.size [13, 15] [some b_1] y_23, isIG .u8 y_23, isIG .u8 (if 7 < y_23 then 7 else y_23), isOwG .bool 4 w.heap.size K w.heap.size [13, 15] [some b_1] 13 (List.replicate m_29.1 (false : Bool)) (some m_29.2), isBdG (.st (.pair (.int .u8) (.pair (.int .u8) (.pair (.int .u8) .raw)))) .bool 4 w.heap.size K w.heap.size [13, 15] [some b_1] 13 (List.replicate m_29.1 (false : Bool)) (some m_29.2) (fun u_ : Value => (y_5, y_11, y_17, u_)), isBxG (.st (.pair (.int .u8) (.pair (.int .u8) (.pair (.int .u8) .raw)))) 66 K w.heap.size [13, 15] [some b_1] 15 (0, 0, 0, (.slice .none 0 0))] [[], [(0, 5)], [(1, 6)], [], [(3, 8)], [(4, 9)], [], [(6, 11)], [(7, 12)], [], [(9, 14)], [(10, 15)], [(11, 16)], [(12, 17)], [(2, 7), (5, 10), (8, 13), (13, 18)], []] (by kernel_rfl) (by rw [S.size]; kernel_rfl) (by kernel_rfl) (by kernel_rfl) (by kernel_rfl) rfl ⟨stabG_rep, stabG_el, stabG_I, stabG_rep, stabG_el, stabG_I, stabG_rep, stabG_el, stabG_I, stabG_rep, stabG_el, stabG_I, stabG_I, stabG_ow, stabG_bd, stabG_bx, trivial⟩ ?_ ?_
  ·
    refine RunAllG.cons (isRepG (.sl (.int .u8)) K w.heap.size [13, 15] [some b_1] x0) [] rfl rfl ?_ ?_
    · intro M_ W_ hW hU_
      have S1 := S
      refine fillG_nil S1 ?_; clear S1; intro a_ S1
      replace R0 : RepV (.sl (.int .u8)) W_ (Kx K w.heap.size (lm [13, 15] [some b_1] M_)) v0 x0 := RepV.gr (g := (fun _ => none, w_3)) (RepV.lm0 R0) hW
      have S0 := S.defers; replace S := S1; clear S1
      refine wl_pure (l' := [(5, v0), (2, .pointer (some (⟨b_1, 0, .none⟩ : Addr))), (0, v0)]) S tys tys_ok 1 (by kernel_rfl) ?_; clear S; intro a S
      refine wpList_nil ?_
      exact RPostG.mk_ S rfl S0 R0 (Below.refl _ _)
    refine RunAllG.cons (isElG (.int .u8) K w.heap.size [13, 15] [some b_1] y_5) [(isRepG (.sl (.int .u8)) K w.heap.size [13, 15] [some b_1] x0, 5)] rfl rfl ?_ ?_
    · intro M_ W_ hW hU_
      have S1 := S
      intro v_41 hF_40; replace hF_40 : RepV (.sl (.int .u8)) W_ (Kx K w.heap.size (lm [13, 15] [some b_1] M_)) v_41 x0 := hF_40
      replace S1 := S1.put (by decide : 5 < 40) (v_41)
      refine fillG_nil S1 ?_; clear S1; intro a_ S1
      replace W : Wd w W_ (lm [13, 15] [some b_1] M_) := Gr.wd hW (Wd.lm0 _ W)
      have S0 := S.defers; replace S := S1; clear S1
      refine w_go S rfl (op_indexAddr S rfl ty23 rfl rfl rfl hF_40 rfl ey_5 ?_)
      clear S; intro a p_42 R_43 H_44 S
      refine wpList_nil ?_
      exact RPostG.mk_ S rfl S0 ⟨_, rfl, R_43, H_44⟩ (Below.refl _ _)
    refine RunAllG.cons (isIG .u8 y_5) [(isElG (.int .u8) K w.heap.size [13, 15] [some b_1] y_5, 6)] rfl rfl ?_ ?_
    · intro M_ W_ hW hU_
      have S1 := S
      rintro _ ⟨p_47, rfl, R_48, H_49⟩; replace R_48 : RepAt (.int .u8) W_ (Kx K w.heap.size (lm [13, 15] [some b_1] M_)) p_47 y_5 := R_48
      replace S1 := S1.put (by decide : 6 < 40) (.pointer (some p_47))
      refine fillG_nil S1 ?_; clear S1; intro a_ S1
      have S0 := S.defers; replace S := S1; clear S1
      refine w_go S rfl (op_load (t := (.int .u8)) (x := y_5) S rfl ty5 rfl rfl rfl R_48 ?_)
      clear S; intro a v_50 R_51 S
      obtain ⟨rfl, GR_51⟩ := RepV.int R_51
      refine wpList_nil ?_
      exact RPostG.mk_ S rfl S0 ⟨rfl, GR_51⟩ (Below.refl _ _)
    refine RunAllG.cons (isRepG (.sl (.int .u8)) K w.heap.size [13, 15] [some b_1] x0) [] rfl rfl ?_ ?_
    · intro M_ W_ hW hU_
      have S1 := S
      refine fillG_nil S1 ?_; clear S1; intro a_ S1
      replace R0 : RepV (.sl (.int .u8)) W_ (Kx K w.heap.size (lm [13, 15] [some b_1] M_)) v0 x0 := RepV.gr (g := (fun _ => none, w_3)) (RepV.lm0 R0) hW
      have S0 := S.defers; replace S := S1; clear S1
      refine wl_pure (l' := [(8, v0), (2, .pointer (some (⟨b_1, 0, .none⟩ : Addr))), (0, v0)]) S tys tys_ok 1 (by kernel_rfl) ?_; clear S; intro a S
      refine wpList_nil ?_
      exact RPostG.mk_ S rfl S0 R0 (Below.refl _ _)
    refine RunAllG.cons (isElG (.int .u8) K w.heap.size [13, 15] [some b_1] y_11) [(isRepG (.sl (.int .u8)) K w.heap.size [13, 15] [some b_1] x0, 8)] rfl rfl ?_ ?_
    · intro M_ W_ hW hU_
      have S1 := S
      intro v_53 hF_52; replace hF_52 : RepV (.sl (.int .u8)) W_ (Kx K w.heap.size (lm [13, 15] [some b_1] M_)) v_53 x0 := hF_52
      replace S1 := S1.put (by decide : 8 < 40) (v_53)
      refine fillG_nil S1 ?_; clear S1; intro a_ S1
      replace W : Wd w W_ (lm [13, 15] [some b_1] M_) := Gr.wd hW (Wd.lm0 _ W)
      have S0 := S.defers; replace S := S1; clear S1
      refine w_go S rfl (op_indexAddr S rfl ty23 rfl rfl rfl hF_52 rfl ey_11 ?_)
      clear S; intro a p_54 R_55 H_56 S
      refine wpList_nil ?_
      exact RPostG.mk_ S rfl S0 ⟨_, rfl, R_55, H_56⟩ (Below.refl _ _)
    refine RunAllG.cons (isIG .u8 y_11) [(isElG (.int .u8) K w.heap.size [13, 15] [some b_1] y_11, 9)] rfl rfl ?_ ?_
    · intro M_ W_ hW hU_
      have S1 := S
      rintro _ ⟨p_59, rfl, R_60, H_61⟩; replace R_60 : RepAt (.int .u8) W_ (Kx K w.heap.size (lm [13, 15] [some b_1] M_)) p_59 y_11 := R_60
      replace S1 := S1.put (by decide : 9 < 40) (.pointer (some p_59))
      refine fillG_nil S1 ?_; clear S1; intro a_ S1
      have S0 := S.defers; replace S := S1; clear S1
      refine w_go S rfl (op_load (t := (.int .u8)) (x := y_11) S rfl ty5 rfl rfl rfl R_60 ?_)
      clear S; intro a v_62 R_63 S
      obtain ⟨rfl, GR_63⟩ := RepV.int R_63
      refine wpList_nil ?_
      exact RPostG.mk_ S rfl S0 ⟨rfl, GR_63⟩ (Below.refl _ _)
    refine RunAllG.cons (isRepG (.sl (.int .u8)) K w.heap.size [13, 15] [some b_1] x0) [] rfl rfl ?_ ?_
    · intro M_ W_ hW hU_
      have S1 := S
      refine fillG_nil S1 ?_; clear S1; intro a_ S1
      replace R0 : RepV (.sl (.int .u8)) W_ (Kx K w.heap.size (lm [13, 15] [some b_1] M_)) v0 x0 := RepV.gr (g := (fun _ => none, w_3)) (RepV.lm0 R0) hW
      have S0 := S.defers; replace S := S1; clear S1
      refine wl_pure (l' := [(11, v0), (2, .pointer (some (⟨b_1, 0, .none⟩ : Addr))), (0, v0)]) S tys tys_ok 1 (by kernel_rfl) ?_; clear S; intro a S
      refine wpList_nil ?_
      exact RPostG.mk_ S rfl S0 R0 (Below.refl _ _)
    refine RunAllG.cons (isElG (.int .u8) K w.heap.size [13, 15] [some b_1] y_17) [(isRepG (.sl (.int .u8)) K w.heap.size [13, 15] [some b_1] x0, 11)] rfl rfl ?_ ?_
    · intro M_ W_ hW hU_
      have S1 := S
      intro v_65 hF_64; replace hF_64 : RepV (.sl (.int .u8)) W_ (Kx K w.heap.size (lm [13, 15] [some b_1] M_)) v_65 x0 := hF_64
      replace S1 := S1.put (by decide : 11 < 40) (v_65)
      refine fillG_nil S1 ?_; clear S1; intro a_ S1
      replace W : Wd w W_ (lm [13, 15] [some b_1] M_) := Gr.wd hW (Wd.lm0 _ W)
      have S0 := S.defers; replace S := S1; clear S1
      refine w_go S rfl (op_indexAddr S rfl ty23 rfl rfl rfl hF_64 rfl ey_17 ?_)
      clear S; intro a p_66 R_67 H_68 S
      refine wpList_nil ?_
      exact RPostG.mk_ S rfl S0 ⟨_, rfl, R_67, H_68⟩ (Below.refl _ _)
    refine RunAllG.cons (isIG .u8 y_17) [(isElG (.int .u8) K w.heap.size [13, 15] [some b_1] y_17, 12)] rfl rfl ?_ ?_
    · intro M_ W_ hW hU_
      have S1 := S
      rintro _ ⟨p_71, rfl, R_72, H_73⟩; replace R_72 : RepAt (.int .u8) W_ (Kx K w.heap.size (lm [13, 15] [some b_1] M_)) p_71 y_17 := R_72
      replace S1 := S1.put (by decide : 12 < 40) (.pointer (some p_71))
      refine fillG_nil S1 ?_; clear S1; intro a_ S1
      have S0 := S.defers; replace S := S1; clear S1
      refine w_go S rfl (op_load (t := (.int .u8)) (x := y_17) S rfl ty5 rfl rfl rfl R_72 ?_)
      clear S; intro a v_74 R_75 S
      obtain ⟨rfl, GR_75⟩ := RepV.int R_75
      refine wpList_nil ?_
      exact RPostG.mk_ S rfl S0 ⟨rfl, GR_75⟩ (Below.refl _ _)
    refine RunAllG.cons (isRepG (.sl (.int .u8)) K w.heap.size [13, 15] [some b_1] x0) [] rfl rfl ?_ ?_
    · intro M_ W_ hW hU_
      have S1 := S
      refine fillG_nil S1 ?_; clear S1; intro a_ S1
      replace R0 : RepV (.sl (.int .u8)) W_ (Kx K w.heap.size (lm [13, 15] [some b_1] M_)) v0 x0 := RepV.gr (g := (fun _ => none, w_3)) (RepV.lm0 R0) hW
      have S0 := S.defers; replace S := S1; clear S1
      refine wl_pure (l' := [(14, v0), (2, .pointer (some (⟨b_1, 0, .none⟩ : Addr))), (0, v0)]) S tys tys_ok 1 (by kernel_rfl) ?_; clear S; intro a S
      refine wpList_nil ?_
      exact RPostG.mk_ S rfl S0 R0 (Below.refl _ _)
    refine RunAllG.cons (isElG (.int .u8) K w.heap.size [13, 15] [some b_1] y_23) [(isRepG (.sl (.int .u8)) K w.heap.size [13, 15] [some b_1] x0, 14)] rfl rfl ?_ ?_
    · intro M_ W_ hW hU_
      have S1 := S
      intro v_77 hF_76; replace hF_76 : RepV (.sl (.int .u8)) W_ (Kx K w.heap.size (lm [13, 15] [some b_1] M_)) v_77 x0 := hF_76
      replace S1 := S1.put (by decide : 14 < 40) (v_77)
      refine fillG_nil S1 ?_; clear S1; intro a_ S1
      replace W : Wd w W_ (lm [13, 15] [some b_1] M_) := Gr.wd hW (Wd.lm0 _ W)
      have S0 := S.defers; replace S := S1; clear S1
      refine w_go S rfl (op_indexAddr S rfl ty23 rfl rfl rfl hF_76 rfl ey_23 ?_)
      clear S; intro a p_78 R_79 H_80 S
      refine wpList_nil ?_
      exact RPostG.mk_ S rfl S0 ⟨_, rfl, R_79, H_80⟩ (Below.refl _ _)
    refine RunAllG.cons (isIG .u8 y_23) [(isElG (.int .u8) K w.heap.size [13, 15] [some b_1] y_23, 15)] rfl rfl ?_ ?_
    · intro M_ W_ hW hU_
      have S1 := S
      rintro _ ⟨p_83, rfl, R_84, H_85⟩; replace R_84 : RepAt (.int .u8) W_ (Kx K w.heap.size (lm [13, 15] [some b_1] M_)) p_83 y_23 := R_84
      replace S1 := S1.put (by decide : 15 < 40) (.pointer (some p_83))
      refine fillG_nil S1 ?_; clear S1; intro a_ S1
      have S0 := S.defers; replace S := S1; clear S1
      refine w_go S rfl (op_load (t := (.int .u8)) (x := y_23) S rfl ty5 rfl rfl rfl R_84 ?_)
      clear S; intro a v_86 R_87 S
      obtain ⟨rfl, GR_87⟩ := RepV.int R_87
      refine wpList_nil ?_
      exact RPostG.mk_ S rfl S0 ⟨rfl, GR_87⟩ (Below.refl _ _)
    refine RunAllG.cons (isIG .u8 (if 7 < y_23 then 7 else y_23)) [(isIG .u8 y_23, 16)] rfl rfl ?_ ?_
    · intro M_ W_ hW hU_
      have S1 := S
      rintro _ ⟨rfl, hF_88⟩
      replace S1 := S1.put (by decide : 16 < 40) (.int .u8 y_23)
      refine fillG_nil S1 ?_; clear S1; intro a_ S1
      replace W : Wd w W_ (lm [13, 15] [some b_1] M_) := Gr.wd hW (Wd.lm0 _ W)
      have S0 := S.defers; replace S := S1; clear S1
      refine w_go S rfl (op_min S rfl rfl rfl rfl rfl ?_)
      clear S; intro a S
      refine wpList_nil ?_
      exact RPostG.mk_ S rfl S0 ⟨rfl, (inR_ite (by decide) hF_88)⟩ (Below.refl _ _)
    refine RunAllG.cons (isOwG .bool 4 w.heap.size K w.heap.size [13, 15] [some b_1] 13 (List.replicate m_29.1 (false : Bool)) (some m_29.2)) [(isIG .u8 (if 7 < y_23 then 7 else y_23), 17)] rfl rfl ?_ ?_
    · intro M_ W_ hW hU_
      have S1 := S
      rintro _ ⟨rfl, hF_90⟩
      replace S1 := S1.put (by decide : 17 < 40) (.int .u8 (if 7 < y_23 then 7 else y_23))
      refine fillG_nil S1 ?_; clear S1; intro a_ S1
      replace W : Wd w W_ (lm [13, 15] [some b_1] M_) := Gr.wd hW (Wd.lm0 _ W)
      have S0 := S.defers; replace S := S1; clear S1
      refine w_go S rfl (op_make (K := K) (e := .bool) (z0 := false) S W _ rfl ty64 un64 by64 z4 (fun w K => rfl) rfl rfl rfl rfl em_29 ?_)
      clear S; intro a w_93 b_92 hb_94 O_95 S
      replace O_95 : Ow .bool 4 w_93 w.heap.size (Kx K w.heap.size (some b_92 :: (lm [13, 15] [some b_1] M_))) (.slice (some ⟨b_92, 0, .none⟩) m_29.1 m_29.2) (List.replicate m_29.1 (false : Bool)) (some m_29.2) := O_95
      refine wpList_nil ?_
      exact RPostG.lay S rfl S0 (some b_92) (NewB.newO hb_94) hU_ (by decide) (by decide) ⟨gupd_at, Ow.laid O_95 (by decide) (by decide)⟩
    refine RunAllG.cons (isBdG (.st (.pair (.int .u8) (.pair (.int .u8) (.pair (.int .u8) .raw)))) .bool 4 w.heap.size K w.heap.size [13, 15] [some b_1] 13 (List.replicate m_29.1 (false : Bool)) (some m_29.2) (fun u_ : Value => (y_5, y_11, y_17, u_))) [(isIG .u8 y_5, 7), (isIG .u8 y_11, 10), (isIG .u8 y_17, 13), (isOwG .bool 4 w.heap.size K w.heap.size [13, 15] [some b_1] 13 (List.replicate m_29.1 (false : Bool)) (some m_29.2), 18)] rfl rfl ?_ ?_
    · intro M_ W_ hW hU_
      have S1 := S
      rintro _ ⟨rfl, hF_96⟩
      replace S1 := S1.put (by decide : 7 < 40) (.int .u8 y_5)
      rintro _ ⟨rfl, hF_98⟩
      replace S1 := S1.put (by decide : 10 < 40) (.int .u8 y_11)
      rintro _ ⟨rfl, hF_100⟩
      replace S1 := S1.put (by decide : 13 < 40) (.int .u8 y_17)
      rintro v_103 ⟨hF_102, O_104⟩; replace O_104 : Ow .bool 4 W_ w.heap.size (Kx K w.heap.size (lm [13, 15] [some b_1] M_)) v_103 (List.replicate m_29.1 (false : Bool)) (some m_29.2) := O_104; replace hF_102 : M_ 13 = some v_103.ownBlock := hF_102
      replace S1 := S1.put (by decide : 18 < 40) (v_103)
      refine fillG_nil S1 ?_; clear S1; intro a_ S1
      have S0 := S.defers; replace S := S1; clear S1
      refine w_go S rfl (op_build (K := (Kx K w.heap.size (lm [13, 15] [some b_1] M_))) (f := (.pair (.int .u8) (.pair (.int .u8) (.pair (.int .u8) .raw)))) (z0 := (0, 0, 0, (.slice .none 0 0))) (x := (y_5, y_11, y_17, v_103)) (vs := [.int .u8 y_5, .int .u8 y_11, .int .u8 y_17, v_103]) S _ rfl tyw66_3 z66 (fun w K => ⟨[.int .u8 0], [.int .u8 0, .int .u8 0, .slice .none 0 0], rfl, ⟨rfl, by decide⟩, ⟨[.int .u8 0], [.int .u8 0, .slice .none 0 0], rfl, ⟨rfl, by decide⟩, ⟨[.int .u8 0], [.slice .none 0 0], rfl, ⟨rfl, by decide⟩, ⟨rfl, _, _, _, rfl⟩⟩⟩⟩) rfl rfl rfl [(0, .int .u8 y_5), (1, .int .u8 y_11), (2, .int .u8 y_17), (3, v_103)] rfl ⟨_, (RepV.mkInt hF_96), rfl, rfl, ⟨_, (RepV.mkInt hF_98), rfl, rfl, ⟨_, (RepV.mkInt hF_100), rfl, rfl, ⟨_, O_104.raw, rfl, rfl, rfl⟩⟩⟩⟩ ?_)
      clear S; intro a v_105 R_106 S
      refine wpList_nil ?_
      exact RPostG.mk_ S rfl S0 ⟨v_103, hF_102, O_104, R_106⟩ (Below.refl _ _)
    refine RunAllG.cons (isBxG (.st (.pair (.int .u8) (.pair (.int .u8) (.pair (.int .u8) .raw)))) 66 K w.heap.size [13, 15] [some b_1] 15 (0, 0, 0, (.slice .none 0 0))) [] rfl rfl ?_ ?_
    · intro M_ W_ hW hU_
      have S1 := S
      refine fillG_nil S1 ?_; clear S1; intro a_ S1
      replace W : Wd w W_ (lm [13, 15] [some b_1] M_) := Gr.wd hW (Wd.lm0 _ W)
      have S0 := S.defers; replace S := S1; clear S1
      refine w_go S rfl (op_alloc (K := K) (n := w.heap.size) (L := (lm [13, 15] [some b_1] M_)) (t := (.st (.pair (.int .u8) (.pair (.int .u8) (.pair (.int .u8) .raw))))) (y := (0, 0, 0, (.slice .none 0 0))) S rfl rfl rfl _ z66 (fun w K => ⟨[.int .u8 0], [.int .u8 0, .int .u8 0, .slice .none 0 0], rfl, ⟨rfl, by decide⟩, ⟨[.int .u8 0], [.int .u8 0, .slice .none 0 0], rfl, ⟨rfl, by decide⟩, ⟨[.int .u8 0], [.slice .none 0 0], rfl, ⟨rfl, by decide⟩, ⟨rfl, _, _, _, rfl⟩⟩⟩⟩) ?_)
      clear S; intro a w_109 b_107 hb_110 B_108 S
      refine wpList_nil ?_
      exact RPostG.lay S rfl S0 (some b_107) (NewB.newO hb_110) hU_ (by decide) (by decide) ⟨b_107, rfl, gupd_at, Bx.laid B_108 (by decide) (by decide)⟩
    exact trivial
  intro M_ w_111 hb_112
  refine EndEG.some_ rfl ?_
  intro v_114 hF_113; replace hF_113 : RepV (.sl (.int .u8)) w_111 (Kx K w.heap.size (lm [13, 15] [some b_1] M_)) v_114 x0 := hF_113
  replace S := S.put (by decide : 5 < 40) (v_114)
  refine EndEG.some_ rfl ?_
  rintro _ ⟨p_117, rfl, R_118, H_119⟩; replace R_118 : RepAt (.int .u8) w_111 (Kx K w.heap.size (lm [13, 15] [some b_1] M_)) p_117 y_5 := R_118
  replace S := S.put (by decide : 6 < 40) (.pointer (some p_117))
  refine EndEG.some_ rfl ?_
  rintro _ ⟨rfl, hF_120⟩
  replace S := S.put (by decide : 7 < 40) (.int .u8 y_5)
  refine EndEG.some_ rfl ?_
  intro v_123 hF_122; replace hF_122 : RepV (.sl (.int .u8)) w_111 (Kx K w.heap.size (lm [13, 15] [some b_1] M_)) v_123 x0 := hF_122
  replace S := S.put (by decide : 8 < 40) (v_123)
  refine EndEG.some_ rfl ?_
  rintro _ ⟨p_126, rfl, R_127, H_128⟩; replace R_127 : RepAt (.int .u8) w_111 (Kx K w.heap.size (lm [13, 15] [some b_1] M_)) p_126 y_11 := R_127
  replace S := S.put (by decide : 9 < 40) (.pointer (some p_126))
  refine EndEG.some_ rfl ?_
  rintro _ ⟨rfl, hF_129⟩
  replace S := S.put (by decide : 10 < 40) (.int .u8 y_11)
  refine EndEG.some_ rfl ?_
  intro v_132 hF_131; replace hF_131 : RepV (.sl (.int .u8)) w_111 (Kx K w.heap.size (lm [13, 15] [some b_1] M_)) v_132 x0 := hF_131
  replace S := S.put (by decide : 11 < 40) (v_132)
  refine EndEG.some_ rfl ?_
  rintro _ ⟨p_135, rfl, R_136, H_137⟩; replace R_136 : RepAt (.int .u8) w_111 (Kx K w.heap.size (lm [13, 15] [some b_1] M_)) p_135 y_17 := R_136
  replace S := S.put (by decide : 12 < 40) (.pointer (some p_135))
  refine EndEG.some_ rfl ?_
  rintro _ ⟨rfl, hF_138⟩
  replace S := S.put (by decide : 13 < 40) (.int .u8 y_17)
  refine EndEG.some_ rfl ?_
  intro v_141 hF_140; replace hF_140 : RepV (.sl (.int .u8)) w_111 (Kx K w.heap.size (lm [13, 15] [some b_1] M_)) v_141 x0 := hF_140
  replace S := S.put (by decide : 14 < 40) (v_141)
  refine EndEG.some_ rfl ?_
  rintro _ ⟨p_144, rfl, R_145, H_146⟩; replace R_145 : RepAt (.int .u8) w_111 (Kx K w.heap.size (lm [13, 15] [some b_1] M_)) p_144 y_23 := R_145
  replace S := S.put (by decide : 15 < 40) (.pointer (some p_144))
  refine EndEG.some_ rfl ?_
  rintro _ ⟨rfl, hF_147⟩
  replace S := S.put (by decide : 16 < 40) (.int .u8 y_23)
  refine EndEG.some_ rfl ?_
  rintro _ ⟨rfl, hF_149⟩
  replace S := S.put (by decide : 17 < 40) (.int .u8 (if 7 < y_23 then 7 else y_23))
  refine EndEG.some_ rfl ?_
  rintro v_152 ⟨hF_151, O_153⟩; replace O_153 : Ow .bool 4 w_111 w.heap.size (Kx K w.heap.size (lm [13, 15] [some b_1] M_)) v_152 (List.replicate m_29.1 (false : Bool)) (some m_29.2) := O_153; replace hF_151 : M_ 13 = some v_152.ownBlock := hF_151
  replace S := S.put (by decide : 18 < 40) (v_152)
  refine EndEG.some_ rfl ?_
  rintro v_155 ⟨v_157, hF_154, O_156, R_158⟩; replace O_156 : Ow .bool 4 w_111 w.heap.size (Kx K w.heap.size (lm [13, 15] [some b_1] M_)) v_157 (List.replicate m_29.1 (false : Bool)) (some m_29.2) := O_156; replace R_158 : RepV (.st (.pair (.int .u8) (.pair (.int .u8) (.pair (.int .u8) .raw)))) w_111 (Kx K w.heap.size (lm [13, 15] [some b_1] M_)) v_155 (y_5, y_11, y_17, v_157) := R_158
  replace hF_154 : M_ 13 = some v_157.ownBlock := hF_154
  replace S := S.put (by decide : 19 < 40) (v_155)
  refine EndEG.some_ rfl ?_
  rintro _ ⟨b_161, rfl, hF_159, B_162⟩; replace B_162 : Bx (.st (.pair (.int .u8) (.pair (.int .u8) (.pair (.int .u8) .raw)))) 66 w_111 (Kx K w.heap.size (lm [13, 15] [some b_1] M_)) b_161 (0, 0, 0, (.slice .none 0 0)) := B_162
  replace hF_159 : M_ 15 = some (some b_161) := hF_159
  replace S := S.put (by decide : 3 < 40) (.pointer (some (⟨b_161, 0, .none⟩ : Addr)))
  refine endEG_nil S ?_; clear S; intro a S
  replace R0 : RepV (.sl (.int .u8)) w_111 (Kx K w.heap.size (lm [13, 15] [some b_1] M_)) v0 x0 := RepV.gr (g := (fun _ => none, w_3)) (RepV.lm0 R0) hb_112
  replace B_2 : Bx (.st (.pair (.int .u8) (.pair (.int .u8) (.pair (.int .u8) .raw)))) 66 w_111 (Kx K w.heap.size (lm [13, 15] [some b_1] M_)) b_1 (0, 0, 0, (.slice .none 0 0)) := Bx.gr (g := (fun _ => none, w_3)) (Bx.lm0 B_2) hb_112
  replace W : Wd w w_111 (lm [13, 15] [some b_1] M_) := Gr.wd hb_112 (Wd.lm0 _ W)
  have eL_ : lm [13, 15] [some b_1] M_ = [v_157.ownBlock, some b_161, some b_1] := by simp [lm, hF_154, hF_159]
  clear O_153
  rw [eL_] at W
  rw [eL_] at R0
  rw [eL_] at hF_113
  rw [eL_] at R_118
  rw [eL_] at hF_122
  rw [eL_] at R_127
  rw [eL_] at hF_131
  rw [eL_] at R_136
  rw [eL_] at hF_140
  rw [eL_] at R_145
  rw [eL_] at R_158
  rw [eL_] at B_2
  rw [eL_] at B_162
  rw [eL_] at O_156
  clear eL_
  refine w_go S rfl (op_store (t' := (.st (.pair (.int .u8) (.pair (.int .u8) (.pair (.int .u8) .raw))))) S rfl rfl tyw66_3 rfl rfl rfl B_162 (by simp) Ln.whole R_158 ?_)
  intro w_163 hw_164 B_
  replace R0 := R0.wrote hw_164 (by simp)
  replace hF_113 := hF_113.wrote hw_164 (by simp)
  replace hF_122 := hF_122.wrote hw_164 (by simp)
  replace hF_131 := hF_131.wrote hw_164 (by simp)
  replace hF_140 := hF_140.wrote hw_164 (by simp)
  replace R_158 := R_158.wrote hw_164 (by simp)
  replace B_2 := B_2.wrote hw_164 (by simp) (W.bne (p := 2) (q := 1) (by decide) rfl rfl)
  replace O_156 := O_156.wrote hw_164 (by simp) (W.one (p := 0) (q := 1) (by decide) rfl rfl)
  replace W := W.wrote hw_164 (by simp)
  replace B_162 : Bx (.st (.pair (.int .u8) (.pair (.int .u8) (.pair (.int .u8) .raw)))) 66 w_163 (Kx K w.heap.size [v_157.ownBlock, some b_161, some b_1]) b_161 (y_5, y_11, y_17, v_157) := B_; clear B_
  refine wpList_nil ?_
  refine then_n ?_
  replace S := S.sub (l' := [(3, .pointer (some (⟨b_161, 0, .none⟩ : Addr))), (2, .pointer (some (⟨b_1, 0, .none⟩ : Addr))), (0, v0)]) (by exact ⟨rfl, rfl, rfl, trivial⟩)
  refine wp_seq ?_
  refine wp_seq ?_
  refine wp_region_lit ?_
  refine wl_pure (l' := [(20, .pointer (some ((⟨b_161, 0, .none⟩ : Addr).add (coff (.pair (.int .u8) (.pair (.int .u8) (.pair (.int .u8) (.sl .bool)))) 3)))), (3, .pointer (some (⟨b_161, 0, .none⟩ : Addr))), (2, .pointer (some (⟨b_1, 0, .none⟩ : Addr))), (0, v0)]) S tys tys_ok 1 (by kernel_rfl) ?_
  clear S; intro a S
  refine w_go S rfl (op_load (t := .raw) (x := v_157) S rfl tyr64 rfl rfl rfl (RepAt.add 3 (RepAt.st B_162.at_)) ?_)
  clear S; intro a v_165 R_166 S
  have q_ := (RepV.rawEq R_166).symm; clear R_166; subst q_
  refine w_go S rfl (op_len (K := _) S rfl ty64 rfl rfl rfl O_156.read ?_)
  clear S; intro a G_167 S
  refine wl_pure (l' := [(23, .int .i64 0), (22, .int .i64 (lenI (⟨(List.replicate m_29.1 (false : Bool)), some m_29.2⟩ : Sl (Bool)))), (21, v_157), (20, .pointer (some ((⟨b_161, 0, .none⟩ : Addr).add (coff (.pair (.int .u8) (.pair (.int .u8) (.pair (.int .u8) (.sl .bool)))) 3)))), (3, .pointer (some (⟨b_161, 0, .none⟩ : Addr))), (2, .pointer (some (⟨b_1, 0, .none⟩ : Addr))), (0, v0)]) S tys tys_ok 1 (by kernel_rfl) ?_
  clear S; intro a S
  refine wpList_nil ?_
  refine then_n ?_
  replace S := S.sub (l' := [(23, .int .i64 0), (22, .int .i64 (lenI (⟨(List.replicate m_29.1 (false : Bool)), some m_29.2⟩ : Sl (Bool)))), (3, .pointer (some (⟨b_161, 0, .none⟩ : Addr))), (2, .pointer (some (⟨b_1, 0, .none⟩ : Addr))), (0, v0)]) (by exact ⟨rfl, rfl, rfl, rfl, rfl, trivial⟩)
  obtain ⟨y_178, ey_178, h⟩ := bindS h
  refine wp_cut_ (fun a_ w_ => ∃ (v_179 : Value), St 40 a_ [(2, .pointer (some (⟨b_1, 0, .none⟩ : Addr))), (3, .pointer (some (⟨b_161, 0, .none⟩ : Addr)))] ∧ Wd w w_ [v_179.ownBlock, some b_161, some b_1] ∧ Bx (.st (.pair (.int .u8) (.pair (.int .u8) (.pair (.int .u8) .raw)))) 66 w_ (Kx K w.heap.size [v_179.ownBlock, some b_161, some b_1]) b_1 (0, 0, 0, .slice .none 0 0) ∧ Bx (.st (.pair (.int .u8) (.pair (.int .u8) (.pair (.int .u8) .raw)))) 66 w_ (Kx K w.heap.size [v_179.ownBlock, some b_161, some b_1]) b_161 (y_5, y_11, y_17, v_179) ∧ Ow .bool 4 w_ w.heap.size (Kx K w.heap.size [v_179.ownBlock, some b_161, some b_1]) v_179 y_178 (some m_29.2)) ?_ ?_
  · refine wp_block ?_
    refine wp_loop_n (fun m_ a_ w_ => ∃ (c_168 : Int) (c_170 : List (Bool)) , ∃ (v_171 : Value), St 40 a_ [(23, .int .i64 c_168), (22, .int .i64 (lenI (⟨(List.replicate m_29.1 (false : Bool)), some m_29.2⟩ : Sl (Bool)))), (3, .pointer (some (⟨b_161, 0, .none⟩ : Addr))), (2, .pointer (some (⟨b_1, 0, .none⟩ : Addr))), (0, v0)] ∧ Wd w w_ [v_171.ownBlock, some b_161, some b_1] ∧ InR .i64 c_168 ∧ RepV (.sl (.int .u8)) w_ (Kx K w.heap.size [v_171.ownBlock, some b_161, some b_1]) v0 x0 ∧ Bx (.st (.pair (.int .u8) (.pair (.int .u8) (.pair (.int .u8) .raw)))) 66 w_ (Kx K w.heap.size [v_171.ownBlock, some b_161, some b_1]) b_1 (0, 0, 0, .slice .none 0 0) ∧ Bx (.st (.pair (.int .u8) (.pair (.int .u8) (.pair (.int .u8) .raw)))) 66 w_ (Kx K w.heap.size [v_171.ownBlock, some b_161, some b_1]) b_161 (y_5, y_11, y_17, v_171) ∧ Ow .bool 4 w_ w.heap.size (Kx K w.heap.size [v_171.ownBlock, some b_161, some b_1]) v_171 c_170 (some m_29.2) ∧ p50_l1 n x0 m_29 m_ c_168 c_170 = some y_178) n ?_ ?_
    · skip
      exact ⟨0, (List.replicate m_29.1 (false : Bool)), ⟨v_157, S.sub (by exact ⟨rfl, rfl, rfl, rfl, rfl, trivial⟩), W, (by decide), R0, B_2, B_162, O_156, ey_178⟩⟩
    · clear S W; rintro m_181 a w_183 ⟨c_168, c_170, v_171, S, W, G_169, R0, B_2, B_162, O_172, hl_182⟩
      cases m_181 with
      | zero => exact absurd hl_182 (by simp [p50_l1])
      | succ m_181 =>
        refine ⟨m_181, rfl, ?_⟩
        rw [p50_l1] at hl_182
        refine wp_seq ?_
        refine wp_region_lit ?_
        refine wl_pure (l' := [(24, .bool (decide (c_168 < (lenI (⟨(List.replicate m_29.1 (false : Bool)), some m_29.2⟩ : Sl (Bool)))))), (23, .int .i64 c_168), (22, .int .i64 (lenI (⟨(List.replicate m_29.1 (false : Bool)), some m_29.2⟩ : Sl (Bool)))), (3, .pointer (some (⟨b_161, 0, .none⟩ : Addr))), (2, .pointer (some (⟨b_1, 0, .none⟩ : Addr))), (0, v0)]) S tys tys_ok 1 (by kernel_rfl) ?_
        clear S; intro a S
        refine wpList_nil ?_
        refine then_n ?_
        refine wp_seq ?_
        refine wp_cond_split (S.eval (show ev _ _ = some (.bool (decide (c_168 < (lenI (⟨(List.replicate m_29.1 (false : Bool)), some m_29.2⟩ : Sl (Bool)))))) from rfl)) ?_ ?_
        · intro hc
          rw [if_pos hc] at hl_182
          refine wp_skip ?_
          refine then_n ?_
          replace S := S.sub (l' := [(23, .int .i64 c_168), (22, .int .i64 (lenI (⟨(List.replicate m_29.1 (false : Bool)), some m_29.2⟩ : Sl (Bool)))), (3, .pointer (some (⟨b_161, 0, .none⟩ : Addr))), (2, .pointer (some (⟨b_1, 0, .none⟩ : Addr))), (0, v0)]) (by exact ⟨rfl, rfl, rfl, rfl, rfl, trivial⟩)
          refine wp_seq ?_
          refine wp_block ?_
          refine wp_seq ?_
          refine wp_region_lit ?_
          refine wl_pure (l' := [(4, .int .i64 c_168), (25, .int .i64 c_168), (23, .int .i64 c_168), (22, .int .i64 (lenI (⟨(List.replicate m_29.1 (false : Bool)), some m_29.2⟩ : Sl (Bool)))), (3, .pointer (some (⟨b_161, 0, .none⟩ : Addr))), (2, .pointer (some (⟨b_1, 0, .none⟩ : Addr))), (0, v0)]) S tys tys_ok 2 (by kernel_rfl) ?_
          clear S; intro a S
          refine wpList_nil ?_
          refine then_n ?_
          replace S := S.sub (l' := [(4, .int .i64 c_168), (23, .int .i64 c_168), (22, .int .i64 (lenI (⟨(List.replicate m_29.1 (false : Bool)), some m_29.2⟩ : Sl (Bool)))), (3, .pointer (some (⟨b_161, 0, .none⟩ : Addr))), (2, .pointer (some (⟨b_1, 0, .none⟩ : Addr))), (0, v0)]) (by exact ⟨rfl, rfl, rfl, rfl, rfl, rfl, trivial⟩)
          obtain ⟨y_186, ey_186, hl_182⟩ := bindS hl_182
          obtain ⟨x_192, ex_192, hl_182⟩ := bindS hl_182
          obtain ⟨x_193, ex_193, hl_182⟩ := bindS hl_182
          have hR : Rel (Kx K w.heap.size [v_171.ownBlock, some b_161, some b_1]) Bl := Bl.rel _
          refine wp_region_suf 11 [11, 11, 11, 11, 11, 11, 11, 11, 11, 11, 11, 12] hR [eqv (.pointer (some ((⟨b_161, 0, .none⟩ : Addr).add (coff (.pair (.int .u8) (.pair (.int .u8) (.pair (.int .u8) (.sl .bool)))) 3)))), eqv (v_171), isI .i64 c_168, isRep (.sl (.int .u8)) (Kx K w.heap.size [v_171.ownBlock, some b_161, some b_1]) x0, isEl (.int .u8) (Kx K w.heap.size [v_171.ownBlock, some b_161, some b_1]) y_186, isI .u8 y_186, isI .i64 c_168, isI .i64 x_192, isI .u8 x_193, isI .u8 (bitsI .and .u8 x_193 1), eqv (.bool ((bitsI .and .u8 x_193 1) != 0))] [[], [(0, 26)], [], [], [(3, 29)], [(4, 30)], [], [(6, 32)], [(5, 31), (7, 33)], [(8, 34)], [(9, 35)]] (by kernel_rfl) (by rw [S.size]; kernel_rfl) (by kernel_rfl) (by kernel_rfl) (by kernel_rfl) rfl ⟨(stab_eqv _), (stab_eqv _), stab_I, (stab_rep hR), (stab_el hR), stab_I, stab_I, stab_I, stab_I, stab_I, (stab_eqv _), trivial⟩ ?_ ?_
          ·
            refine RunAll.cons (eqv (.pointer (some ((⟨b_161, 0, .none⟩ : Addr).add (coff (.pair (.int .u8) (.pair (.int .u8) (.pair (.int .u8) (.sl .bool)))) 3))))) [] rfl rfl ?_ ?_
            · intro W_ hW
              have S1 := S
              refine fill_nil S1 ?_; clear S1; intro a_ S1
              replace B_162 := B_162.step hW
              have S0 := S.defers; replace S := S1; clear S1
              refine wl_pure (l' := [(26, .pointer (some ((⟨b_161, 0, .none⟩ : Addr).add (coff (.pair (.int .u8) (.pair (.int .u8) (.pair (.int .u8) (.sl .bool)))) 3)))), (4, .int .i64 c_168), (23, .int .i64 c_168), (22, .int .i64 (lenI (⟨(List.replicate m_29.1 (false : Bool)), some m_29.2⟩ : Sl (Bool)))), (3, .pointer (some (⟨b_161, 0, .none⟩ : Addr))), (2, .pointer (some (⟨b_1, 0, .none⟩ : Addr))), (0, v0)]) S tys tys_ok 1 (by kernel_rfl) ?_; clear S; intro a S
              refine wpList_nil ?_
              exact RPost.mk_ S rfl S0 rfl (Below.refl _ _)
            refine RunAll.cons (eqv (v_171)) [(eqv (.pointer (some ((⟨b_161, 0, .none⟩ : Addr).add (coff (.pair (.int .u8) (.pair (.int .u8) (.pair (.int .u8) (.sl .bool)))) 3)))), 26)] rfl rfl ?_ ?_
            · intro W_ hW
              have S1 := S
              intro v_195 hF_194; obtain rfl : .pointer (some ((⟨b_161, 0, .none⟩ : Addr).add (coff (.pair (.int .u8) (.pair (.int .u8) (.pair (.int .u8) (.sl .bool)))) 3))) = v_195 := Eq.symm hF_194
              replace S1 := S1.put (by decide : 26 < 40) (.pointer (some ((⟨b_161, 0, .none⟩ : Addr).add (coff (.pair (.int .u8) (.pair (.int .u8) (.pair (.int .u8) (.sl .bool)))) 3))))
              refine fill_nil S1 ?_; clear S1; intro a_ S1
              replace B_162 := B_162.step hW
              have S0 := S.defers; replace S := S1; clear S1
              refine w_go S rfl (op_load (t := .raw) (x := v_171) S rfl tyr64 rfl rfl rfl (RepAt.add 3 (RepAt.st B_162.at_)) ?_)
              clear S; intro a v_196 R_197 S
              have q_ := (RepV.rawEq R_197).symm; clear R_197; subst q_
              refine wpList_nil ?_
              exact RPost.mk_ S rfl S0 rfl (Below.refl _ _)
            refine RunAll.cons (isI .i64 c_168) [] rfl rfl ?_ ?_
            · intro W_ hW
              have S1 := S
              refine fill_nil S1 ?_; clear S1; intro a_ S1
              have S0 := S.defers; replace S := S1; clear S1
              refine wl_pure (l' := [(28, .int .i64 c_168), (4, .int .i64 c_168), (23, .int .i64 c_168), (22, .int .i64 (lenI (⟨(List.replicate m_29.1 (false : Bool)), some m_29.2⟩ : Sl (Bool)))), (3, .pointer (some (⟨b_161, 0, .none⟩ : Addr))), (2, .pointer (some (⟨b_1, 0, .none⟩ : Addr))), (0, v0)]) S tys tys_ok 1 (by kernel_rfl) ?_; clear S; intro a S
              refine wpList_nil ?_
              exact RPost.mk_ S rfl S0 ⟨rfl, G_169⟩ (Below.refl _ _)
            refine RunAll.cons (isRep (.sl (.int .u8)) (Kx K w.heap.size [v_171.ownBlock, some b_161, some b_1]) x0) [] rfl rfl ?_ ?_
            · intro W_ hW
              have S1 := S
              refine fill_nil S1 ?_; clear S1; intro a_ S1
              replace R0 := R0.step hW
              have S0 := S.defers; replace S := S1; clear S1
              refine wl_pure (l' := [(29, v0), (4, .int .i64 c_168), (23, .int .i64 c_168), (22, .int .i64 (lenI (⟨(List.replicate m_29.1 (false : Bool)), some m_29.2⟩ : Sl (Bool)))), (3, .pointer (some (⟨b_161, 0, .none⟩ : Addr))), (2, .pointer (some (⟨b_1, 0, .none⟩ : Addr))), (0, v0)]) S tys tys_ok 1 (by kernel_rfl) ?_; clear S; intro a S
              refine wpList_nil ?_
              exact RPost.mk_ S rfl S0 R0 (Below.refl _ _)
            refine RunAll.cons (isEl (.int .u8) (Kx K w.heap.size [v_171.ownBlock, some b_161, some b_1]) y_186) [(isRep (.sl (.int .u8)) (Kx K w.heap.size [v_171.ownBlock, some b_161, some b_1]) x0, 29)] rfl rfl ?_ ?_
            · intro W_ hW
              have S1 := S
              intro v_199 hF_198; replace hF_198 : RepV _ _ _ _ _ := hF_198
              replace S1 := S1.put (by decide : 29 < 40) (v_199)
              refine fill_nil S1 ?_; clear S1; intro a_ S1
              replace W := W.step hW
              have S0 := S.defers; replace S := S1; clear S1
              refine w_go S rfl (op_indexAddr S rfl ty23 rfl rfl rfl hF_198 rfl ey_186 ?_)
              clear S; intro a p_200 R_201 H_202 S
              refine wpList_nil ?_
              exact RPost.mk_ S rfl S0 ⟨_, rfl, R_201, H_202⟩ (Below.refl _ _)
            refine RunAll.cons (isI .u8 y_186) [(isEl (.int .u8) (Kx K w.heap.size [v_171.ownBlock, some b_161, some b_1]) y_186, 30)] rfl rfl ?_ ?_
            · intro W_ hW
              have S1 := S
              rintro _ ⟨p_205, rfl, R_206, H_207⟩
              replace S1 := S1.put (by decide : 30 < 40) (.pointer (some p_205))
              refine fill_nil S1 ?_; clear S1; intro a_ S1
              have S0 := S.defers; replace S := S1; clear S1
              refine w_go S rfl (op_load (t := (.int .u8)) (x := y_186) S rfl ty5 rfl rfl rfl R_206 ?_)
              clear S; intro a v_208 R_209 S
              obtain ⟨rfl, GR_209⟩ := RepV.int R_209
              refine wpList_nil ?_
              exact RPost.mk_ S rfl S0 ⟨rfl, GR_209⟩ (Below.refl _ _)
            refine RunAll.cons (isI .i64 c_168) [] rfl rfl ?_ ?_
            · intro W_ hW
              have S1 := S
              refine fill_nil S1 ?_; clear S1; intro a_ S1
              have S0 := S.defers; replace S := S1; clear S1
              refine wl_pure (l' := [(32, .int .i64 c_168), (4, .int .i64 c_168), (23, .int .i64 c_168), (22, .int .i64 (lenI (⟨(List.replicate m_29.1 (false : Bool)), some m_29.2⟩ : Sl (Bool)))), (3, .pointer (some (⟨b_161, 0, .none⟩ : Addr))), (2, .pointer (some (⟨b_1, 0, .none⟩ : Addr))), (0, v0)]) S tys tys_ok 1 (by kernel_rfl) ?_; clear S; intro a S
              refine wpList_nil ?_
              exact RPost.mk_ S rfl S0 ⟨rfl, G_169⟩ (Below.refl _ _)
            refine RunAll.cons (isI .i64 x_192) [(isI .i64 c_168, 32)] rfl rfl ?_ ?_
            · intro W_ hW
              have S1 := S
              rintro _ ⟨rfl, hF_210⟩
              replace S1 := S1.put (by decide : 32 < 40) (.int .i64 c_168)
              refine fill_nil S1 ?_; clear S1; intro a_ S1
              have S0 := S.defers; replace S := S1; clear S1
              refine w_go S rfl (op_arith S .i64 (c_168 + 1) rfl (.inl rfl) rfl rfl rfl rfl ex_192 ?_)
              clear S; intro a S
              refine wpList_nil ?_
              exact RPost.mk_ S rfl S0 ⟨rfl, (ckI_some ex_192).2.1⟩ (Below.refl _ _)
            refine RunAll.cons (isI .u8 x_193) [(isI .u8 y_186, 31), (isI .i64 x_192, 33)] rfl rfl ?_ ?_
            · intro W_ hW
              have S1 := S
              rintro _ ⟨rfl, hF_212⟩
              replace S1 := S1.put (by decide : 31 < 40) (.int .u8 y_186)
              rintro _ ⟨rfl, hF_214⟩
              replace S1 := S1.put (by decide : 33 < 40) (.int .i64 x_192)
              refine fill_nil S1 ?_; clear S1; intro a_ S1
              have S0 := S.defers; replace S := S1; clear S1
              refine w_go S rfl (op_shr S .u8 .i64 rfl rfl rfl rfl rfl ex_193 ?_)
              clear S; intro a S
              refine wpList_nil ?_
              exact RPost.mk_ S rfl S0 ⟨rfl, (inR_shr hF_212 ex_193)⟩ (Below.refl _ _)
            refine RunAll.cons (isI .u8 (bitsI .and .u8 x_193 1)) [(isI .u8 x_193, 34)] rfl rfl ?_ ?_
            · intro W_ hW
              have S1 := S
              rintro _ ⟨rfl, hF_216⟩
              replace S1 := S1.put (by decide : 34 < 40) (.int .u8 x_193)
              refine fill_nil S1 ?_; clear S1; intro a_ S1
              have S0 := S.defers; replace S := S1; clear S1
              refine wl_pure (l' := [(35, .int .u8 (bitsI .and .u8 x_193 1)), (34, .int .u8 x_193), (4, .int .i64 c_168), (23, .int .i64 c_168), (22, .int .i64 (lenI (⟨(List.replicate m_29.1 (false : Bool)), some m_29.2⟩ : Sl (Bool)))), (3, .pointer (some (⟨b_161, 0, .none⟩ : Addr))), (2, .pointer (some (⟨b_1, 0, .none⟩ : Addr))), (0, v0)]) S tys tys_ok 1 (by kernel_rfl) ?_; clear S; intro a S
              refine wpList_nil ?_
              exact RPost.mk_ S rfl S0 ⟨rfl, inR_bits⟩ (Below.refl _ _)
            refine RunAll.cons (eqv (.bool ((bitsI .and .u8 x_193 1) != 0))) [(isI .u8 (bitsI .and .u8 x_193 1), 35)] rfl rfl ?_ ?_
            · intro W_ hW
              have S1 := S
              rintro _ ⟨rfl, hF_218⟩
              replace S1 := S1.put (by decide : 35 < 40) (.int .u8 (bitsI .and .u8 x_193 1))
              refine fill_nil S1 ?_; clear S1; intro a_ S1
              have S0 := S.defers; replace S := S1; clear S1
              refine wl_pure (l' := [(36, .bool ((bitsI .and .u8 x_193 1) != 0)), (35, .int .u8 (bitsI .and .u8 x_193 1)), (4, .int .i64 c_168), (23, .int .i64 c_168), (22, .int .i64 (lenI (⟨(List.replicate m_29.1 (false : Bool)), some m_29.2⟩ : Sl (Bool)))), (3, .pointer (some (⟨b_161, 0, .none⟩ : Addr))), (2, .pointer (some (⟨b_1, 0, .none⟩ : Addr))), (0, v0)]) S tys tys_ok 1 (by kernel_rfl) ?_; clear S; intro a S
              refine wpList_nil ?_
              exact RPost.mk_ S rfl S0 rfl (Below.refl _ _)
            exact trivial
          intro w_220 hb_221
          refine EndE.some_ rfl ?_
          intro v_223 hF_222; obtain rfl : .pointer (some ((⟨b_161, 0, .none⟩ : Addr).add (coff (.pair (.int .u8) (.pair (.int .u8) (.pair (.int .u8) (.sl .bool)))) 3))) = v_223 := Eq.symm hF_222
          replace S := S.put (by decide : 26 < 40) (.pointer (some ((⟨b_161, 0, .none⟩ : Addr).add (coff (.pair (.int .u8) (.pair (.int .u8) (.pair (.int .u8) (.sl .bool)))) 3))))
          refine EndE.some_ rfl ?_
          intro v_225 hF_224; obtain rfl : v_171 = v_225 := Eq.symm hF_224
          replace S := S.put (by decide : 27 < 40) (v_171)
          refine EndE.some_ rfl ?_
          rintro _ ⟨rfl, hF_226⟩
          replace S := S.put (by decide : 28 < 40) (.int .i64 c_168)
          refine EndE.some_ rfl ?_
          intro v_229 hF_228; replace hF_228 : RepV _ _ _ _ _ := hF_228
          replace S := S.put (by decide : 29 < 40) (v_229)
          refine EndE.some_ rfl ?_
          rintro _ ⟨p_232, rfl, R_233, H_234⟩
          replace S := S.put (by decide : 30 < 40) (.pointer (some p_232))
          refine EndE.some_ rfl ?_
          rintro _ ⟨rfl, hF_235⟩
          replace S := S.put (by decide : 31 < 40) (.int .u8 y_186)
          refine EndE.some_ rfl ?_
          rintro _ ⟨rfl, hF_237⟩
          replace S := S.put (by decide : 32 < 40) (.int .i64 c_168)
          refine EndE.some_ rfl ?_
          rintro _ ⟨rfl, hF_239⟩
          replace S := S.put (by decide : 33 < 40) (.int .i64 x_192)
          refine EndE.some_ rfl ?_
          rintro _ ⟨rfl, hF_241⟩
          replace S := S.put (by decide : 34 < 40) (.int .u8 x_193)
          refine EndE.some_ rfl ?_
          rintro _ ⟨rfl, hF_243⟩
          replace S := S.put (by decide : 35 < 40) (.int .u8 (bitsI .and .u8 x_193 1))
          refine EndE.some_ rfl ?_
          intro v_246 hF_245; obtain rfl : .bool ((bitsI .and .u8 x_193 1) != 0) = v_246 := Eq.symm hF_245
          replace S := S.put (by decide : 36 < 40) (.bool ((bitsI .and .u8 x_193 1) != 0))
          refine endE_nil S ?_; clear S; intro a S
          replace R0 := R0.step hb_221
          replace B_2 := B_2.step hb_221
          replace B_162 := B_162.step hb_221
          replace O_172 := O_172.step hb_221
          replace W := W.step hb_221
          obtain ⟨y_247, ey_247, hl_182⟩ := bindS hl_182
          refine w_go S rfl (op_indexAddr_own S rfl ty64 rfl rfl rfl O_172 rfl ey_247 ?_)
          clear S; intro a g_248 H_250 R_249 S
          refine w_go S rfl (op_store_own (t' := .bool) S rfl rfl ty4 rfl rfl rfl O_172 H_250 0 rfl (idx_some ey_247).2.1 Ln.whole (RepV.mkBool : RepV .bool w_220 (Kx K w.heap.size [v_171.ownBlock, some b_161, some b_1]) _ ((bitsI .and .u8 x_193 1) != 0)) ?_)
          intro w_251 hw_252 hm_254 O_253
          replace R0 := R0.wrote hw_252 hm_254
          replace hF_228 := hF_228.wrote hw_252 hm_254
          replace B_2 := B_2.wrote hw_252 hm_254 (by have h_ := W.one (p := 0) (q := 2) (by decide) rfl rfl; exact fun e_ => h_ (by rw [e_]; exact H_250))
          replace B_162 := B_162.wrote hw_252 hm_254 (by have h_ := W.one (p := 0) (q := 1) (by decide) rfl rfl; exact fun e_ => h_ (by rw [e_]; exact H_250))
          replace W := W.wrote hw_252 hm_254
          replace O_253 : Ow .bool 4 w_251 w.heap.size (Kx K w.heap.size [v_171.ownBlock, some b_161, some b_1]) v_171 (c_170.set c_168.toNat ((bitsI .and .u8 x_193 1) != 0)) (some m_29.2) := O_253
          refine wpList_nil ?_
          refine blk_n ?_
          refine then_n ?_
          replace S := S.sub (l' := [(23, .int .i64 c_168), (22, .int .i64 (lenI (⟨(List.replicate m_29.1 (false : Bool)), some m_29.2⟩ : Sl (Bool)))), (3, .pointer (some (⟨b_161, 0, .none⟩ : Addr))), (2, .pointer (some (⟨b_1, 0, .none⟩ : Addr))), (0, v0)]) (by exact ⟨rfl, rfl, rfl, rfl, rfl, trivial⟩)
          refine wp_region_lit ?_
          obtain ⟨x_255, ex_255, hl_182⟩ := bindS hl_182
          refine w_go S rfl (op_arith S .i64 (c_168 + 1) rfl (.inl rfl) rfl rfl rfl rfl ex_255 ?_)
          clear S; intro a S
          refine wl_pure (l' := [(23, .int .i64 x_255), (38, .int .i64 x_255), (23, .int .i64 c_168), (22, .int .i64 (lenI (⟨(List.replicate m_29.1 (false : Bool)), some m_29.2⟩ : Sl (Bool)))), (3, .pointer (some (⟨b_161, 0, .none⟩ : Addr))), (2, .pointer (some (⟨b_1, 0, .none⟩ : Addr))), (0, v0)]) S tys tys_ok 1 (by kernel_rfl) ?_
          clear S; intro a S
          refine wpList_nil ?_
          refine then_n ?_
          exact ⟨x_255, (c_170.set c_168.toNat ((bitsI .and .u8 x_193 1) != 0)), ⟨v_171, S.sub (by exact ⟨rfl, rfl, rfl, rfl, rfl, trivial⟩), W, (ckI_some ex_255).2.1, R0, B_2, B_162, O_253, hl_182⟩⟩
        · intro hc
          rw [if_neg (Bool.eq_false_iff.1 hc)] at hl_182
          refine wp_exit ?_
          refine then_x ?_
          refine then_x ?_
          refine blk_hit ?_
          refine then_n ?_
          obtain rfl := Option.some.inj hl_182
          exact ⟨v_171, S.sub (by exact ⟨rfl, rfl, trivial⟩), W, B_2, B_162, O_172⟩
  clear S W; rintro a w_256 ⟨v_179, S, W, B_2, B_162, O_180⟩
  refine then_n ?_
  refine wp_seq ?_
  refine wp_region_lit ?_
  have R_257 : RepV (.sl .bool) w_256 (Kx K w.heap.size [some b_161, some b_1]) v_179 (⟨y_178, some m_29.2⟩ : Sl (Bool)) := O_180.pubAt W 0 rfl
  replace B_2 : Bx (.st (.pair (.int .u8) (.pair (.int .u8) (.pair (.int .u8) .raw)))) 66 w_256 (Kx K w.heap.size [some b_161, some b_1]) b_1 (0, 0, 0, .slice .none 0 0) := B_2.lessAt 0
  replace B_162 : Bx (.st (.pair (.int .u8) (.pair (.int .u8) (.pair (.int .u8) .raw)))) 66 w_256 (Kx K w.heap.size [some b_161, some b_1]) b_161 (y_5, y_11, y_17, v_179) := B_162.lessAt 0
  replace W : Wd w w_256 [some b_161, some b_1] := W.lessAt 0
  replace B_162 : Bx (.st (.pair (.int .u8) (.pair (.int .u8) (.pair (.int .u8) (.sl .bool))))) 66 w_256 (Kx K w.heap.size [some b_161, some b_1]) b_161 (y_5, y_11, y_17, (⟨y_178, some m_29.2⟩ : Sl (Bool))) := Bx.unraw (f := (.pair (.int .u8) (.pair (.int .u8) (.pair (.int .u8) (.sl .bool))))) 3 (y_5, y_11, y_17, (⟨y_178, some m_29.2⟩ : Sl (Bool))) rfl B_162 R_257
  refine w_go S rfl (op_load (t := (.st (.pair (.int .u8) (.pair (.int .u8) (.pair (.int .u8) (.sl .bool)))))) (x := (y_5, y_11, y_17, (⟨y_178, some m_29.2⟩ : Sl (Bool)))) S rfl ty66 rfl rfl rfl B_162.at_ ?_)
  clear S; intro a v_258 R_259 S
  replace B_2 : Bx (.st (.pair (.int .u8) (.pair (.int .u8) (.pair (.int .u8) (.sl .bool))))) 66 w_256 (Kx K w.heap.size [some b_161, some b_1]) b_1 (0, 0, 0, (⟨[], some 0⟩ : Sl (Bool))) := Bx.unraw (f := (.pair (.int .u8) (.pair (.int .u8) (.pair (.int .u8) (.sl .bool))))) 3 (0, 0, 0, (⟨[], some 0⟩ : Sl (Bool))) rfl B_2 RepV.nil
  refine w_go S rfl (op_store (t' := (.st (.pair (.int .u8) (.pair (.int .u8) (.pair (.int .u8) (.sl .bool)))))) S rfl rfl ty66 rfl rfl rfl B_2 (by simp) Ln.whole R_259 ?_)
  intro w_260 hw_261 B_
  replace R_259 := R_259.wrote hw_261 (by simp)
  replace B_162 := B_162.wrote hw_261 (by simp) (W.bne (p := 0) (q := 1) (by decide) rfl rfl)
  replace W := W.wrote hw_261 (by simp)
  replace B_2 : Bx (.st (.pair (.int .u8) (.pair (.int .u8) (.pair (.int .u8) (.sl .bool))))) 66 w_260 (Kx K w.heap.size [some b_161, some b_1]) b_1 (y_5, y_11, y_17, (⟨y_178, some m_29.2⟩ : Sl (Bool))) := B_; clear B_
  refine wpList_nil ?_
  refine then_n ?_
  replace S := S.sub (l' := [(2, .pointer (some (⟨b_1, 0, .none⟩ : Addr)))]) (by exact ⟨rfl, trivial⟩)
  refine wp_ret ?_
  obtain ⟨v_262, hr_263, R_264⟩ := res_cell (P := Try.prog) (T := 66) (t := (.st (.pair (.int .u8) (.pair (.int .u8) (.pair (.int .u8) (.sl .bool)))))) (x := (y_5, y_11, y_17, (⟨y_178, some m_29.2⟩ : Sl (Bool)))) S (s := 2) rfl ty66 B_2.at_
  obtain rfl := Option.some.inj h
  exact b_res1 S rfl hr_263 ⟨_, rfl, R_264.out, W.below⟩
theorem cb50 : callB Try.prog 50 = true := by kernel_rfl
def p49 (n : Nat) (x0 : Sl (Int)) (x1 : Int) : Option ((Int × Int × Int × (Sl (Bool))) × (Int)) :=
  if ((lenI x0) != x1) then (some ((0, 0, 0, ⟨[], some 0⟩), 5)) else (p50 n x0).bind fun t_17 => (p27 n t_17).bind fun t_30 => (if (t_30.2 != 0) = false then (p55 n (⟨t_30.1.xs, t_30.1.cap⟩ : Sl (Int)) x0).bind fun t_38 => some (!t_38) else some true).bind fun q_37 => if q_37 then (some ((0, 0, 0, ⟨[], some 0⟩), 4)) else some (t_17, 0)
set_option maxHeartbeats 4000000 in
set_option maxRecDepth 100000 in
/-- plugboard/descriptors.decode[plugboard/descriptors.Hub] -/
theorem c49 (K : Nat → Prop) (n : Nat) (w : World) (x0 : Sl (Int)) (v0 : Value) (R0 : RepV (.sl (.int .u8)) w K v0 x0) (x1 : Int) (G1 : InR .i64 x1) {r : (Int × Int × Int × (Sl (Bool))) × (Int)} (h : p49 n x0 x1 = some r) :
    Calls Try.prog 49 #[v0, .int .i64 x1, .func (.func 50) #[] #[], .func (.func 27) #[] #[]] w (Ret2 (.st (.pair (.int .u8) (.pair (.int .u8) (.pair (.int .u8) (.sl .bool))))) (.int .i64) w (Kx K w.heap.size []) r) := by
  refine enter (args := [v0, .int .i64 x1, .func (.func 50) #[] #[], .func (.func 27) #[] #[]]) Try.func49 rfl 38 rfl rfl fun a S => ?_
  have W := Wd.start w
  replace R0 := R0.arg
  unfold p49 at h
  replace S : St 38 a [(0, v0), (1, .int .i64 x1), (2, .func (.func 50) #[] #[]), (3, .func (.func 27) #[] #[])] := S
  refine wp_seq ?_
  refine wp_region_lit ?_
  refine w_go S rfl (op_alloc (K := K) (n := w.heap.size) (L := []) (t := (.st (.pair (.int .u8) (.pair (.int .u8) (.pair (.int .u8) (.sl .bool)))))) (y := (0, 0, 0, ⟨[], some 0⟩)) S rfl rfl rfl _ z66 (fun w K => ⟨[.int .u8 0], [.int .u8 0, .int .u8 0, .slice .none 0 0], rfl, ⟨rfl, by decide⟩, ⟨[.int .u8 0], [.int .u8 0, .slice .none 0 0], rfl, ⟨rfl, by decide⟩, ⟨[.int .u8 0], [.slice .none 0 0], rfl, ⟨rfl, by decide⟩, ⟨.none, 0, 0, rfl, rfl, Nat.le_refl _, by decide, fun k h => Option.some.inj h, .inl rfl⟩⟩⟩⟩) ?_)
  clear S; intro a w_3 b_1 hb_4 B_2 S
  replace R0 := R0.box hb_4
  replace W := W.box hb_4
  refine wl_pure (l' := [(9, .int .i64 0), (8, .pointer (some (⟨b_1, 0, .none⟩ : Addr))), (0, v0), (1, .int .i64 x1), (2, .func (.func 50) #[] #[]), (3, .func (.func 27) #[] #[])]) S tys tys_ok 1 (by kernel_rfl) ?_
  clear S; intro a S
  refine wpList_nil ?_
  refine then_n ?_
  replace S := S.sub (l' := [(8, .pointer (some (⟨b_1, 0, .none⟩ : Addr))), (0, v0), (1, .int .i64 x1), (2, .func (.func 50) #[] #[]), (3, .func (.func 27) #[] #[])]) (by exact ⟨rfl, rfl, rfl, rfl, rfl, trivial⟩)
  refine wp_seq ?_
  refine wp_region_lit ?_
  refine w_go S rfl (op_alloc (K := K) (n := w.heap.size) (L := [some b_1]) (t := (.st (.pair (.int .u8) (.pair (.int .u8) (.pair (.int .u8) (.sl .bool)))))) (y := (0, 0, 0, ⟨[], some 0⟩)) S rfl rfl rfl _ z66 (fun w K => ⟨[.int .u8 0], [.int .u8 0, .int .u8 0, .slice .none 0 0], rfl, ⟨rfl, by decide⟩, ⟨[.int .u8 0], [.int .u8 0, .slice .none 0 0], rfl, ⟨rfl, by decide⟩, ⟨[.int .u8 0], [.slice .none 0 0], rfl, ⟨rfl, by decide⟩, ⟨.none, 0, 0, rfl, rfl, Nat.le_refl _, by decide, fun k h => Option.some.inj h, .inl rfl⟩⟩⟩⟩) ?_)
  clear S; intro a w_7 b_5 hb_8 B_6 S
  replace R0 := R0.box hb_8
  replace B_2 := B_2.box hb_8
  replace W := W.box hb_8
  refine wpList_nil ?_
  refine then_n ?_
  refine wp_seq ?_
  refine wp_seq ?_
  refine wp_region_lit ?_
  refine wl_pure (l' := [(14, v0), (10, .pointer (some (⟨b_5, 0, .none⟩ : Addr))), (8, .pointer (some (⟨b_1, 0, .none⟩ : Addr))), (0, v0), (1, .int .i64 x1), (2, .func (.func 50) #[] #[]), (3, .func (.func 27) #[] #[])]) S tys tys_ok 1 (by kernel_rfl) ?_
  clear S; intro a S
  refine w_go S rfl (op_len (K := _) S rfl ty23 rfl rfl rfl R0 ?_)
  clear S; intro a G_9 S
  refine wl_pure (l' := [(17, .bool ((lenI x0) != x1)), (16, .int .i64 x1), (15, .int .i64 (lenI x0)), (14, v0), (10, .pointer (some (⟨b_5, 0, .none⟩ : Addr))), (8, .pointer (some (⟨b_1, 0, .none⟩ : Addr))), (0, v0), (1, .int .i64 x1), (2, .func (.func 50) #[] #[]), (3, .func (.func 27) #[] #[])]) S tys tys_ok 2 (by kernel_rfl) ?_
  clear S; intro a S
  refine wpList_nil ?_
  refine then_n ?_
  replace S := S.sub (l' := [(17, .bool ((lenI x0) != x1)), (10, .pointer (some (⟨b_5, 0, .none⟩ : Addr))), (8, .pointer (some (⟨b_1, 0, .none⟩ : Addr))), (0, v0), (2, .func (.func 50) #[] #[]), (3, .func (.func 27) #[] #[])]) (by exact ⟨rfl, rfl, rfl, rfl, rfl, rfl, trivial⟩)
  refine wp_cond_split (S.eval (show ev _ _ = some (.bool ((lenI x0) != x1)) from rfl)) ?_ ?_
  · intro hc
    rw [if_pos hc] at h
    refine wp_seq ?_
    refine wp_region_lit ?_
    refine w_go S rfl (op_load (t := (.st (.pair (.int .u8) (.pair (.int .u8) (.pair (.int .u8) (.sl .bool)))))) (x := (0, 0, 0, ⟨[], some 0⟩)) S rfl ty66 rfl rfl rfl B_6.at_ ?_)
    clear S; intro a v_10 R_11 S
    refine w_go S rfl (op_store (t' := (.st (.pair (.int .u8) (.pair (.int .u8) (.pair (.int .u8) (.sl .bool)))))) S rfl rfl ty66 rfl rfl rfl B_2 (by simp) Ln.whole R_11 ?_)
    intro w_12 hw_13 B_
    replace R0 := R0.wrote hw_13 (by simp)
    replace R_11 := R_11.wrote hw_13 (by simp)
    replace B_6 := B_6.wrote hw_13 (by simp) (W.bne (p := 0) (q := 1) (by decide) rfl rfl)
    replace W := W.wrote hw_13 (by simp)
    replace B_2 : Bx (.st (.pair (.int .u8) (.pair (.int .u8) (.pair (.int .u8) (.sl .bool))))) 66 w_12 (Kx K w.heap.size [some b_5, some b_1]) b_1 (0, 0, 0, ⟨[], some 0⟩) := B_; clear B_
    refine wl_pure (l' := [(9, .int .i64 5), (18, v_10), (17, .bool ((lenI x0) != x1)), (10, .pointer (some (⟨b_5, 0, .none⟩ : Addr))), (8, .pointer (some (⟨b_1, 0, .none⟩ : Addr))), (0, v0), (2, .func (.func 50) #[] #[]), (3, .func (.func 27) #[] #[])]) S tys tys_ok 1 (by kernel_rfl) ?_
    clear S; intro a S
    refine wpList_nil ?_
    refine then_n ?_
    replace S := S.sub (l' := [(9, .int .i64 5), (8, .pointer (some (⟨b_1, 0, .none⟩ : Addr)))]) (by exact ⟨rfl, rfl, trivial⟩)
    refine wp_ret ?_
    refine then_r ?_
    obtain ⟨v_14, hr_15, R_16⟩ := res_cell (P := Try.prog) (T := 66) (t := (.st (.pair (.int .u8) (.pair (.int .u8) (.pair (.int .u8) (.sl .bool)))))) (x := (0, 0, 0, ⟨[], some 0⟩)) S (s := 8) rfl ty66 B_2.at_
    obtain rfl := Option.some.inj h
    exact b_res2 S rfl hr_15 (res_tmp S rfl) ⟨_, _, rfl, R_16.out, (RepV.mkInt (by decide)), W.below⟩
  · intro hc
    rw [if_neg (Bool.eq_false_iff.1 hc)] at h
    refine wp_skip ?_
    refine then_n ?_
    replace S := S.sub (l' := [(10, .pointer (some (⟨b_5, 0, .none⟩ : Addr))), (8, .pointer (some (⟨b_1, 0, .none⟩ : Addr))), (0, v0), (2, .func (.func 50) #[] #[]), (3, .func (.func 27) #[] #[])]) (by exact ⟨rfl, rfl, rfl, rfl, rfl, trivial⟩)
    refine wp_seq ?_
    refine wp_region_lit ?_
    refine wl_pure (l' := [(20, v0), (19, .func (.func 50) #[] #[]), (10, .pointer (some (⟨b_5, 0, .none⟩ : Addr))), (8, .pointer (some (⟨b_1, 0, .none⟩ : Addr))), (0, v0), (2, .func (.func 50) #[] #[]), (3, .func (.func 27) #[] #[])]) S tys tys_ok 2 (by kernel_rfl) ?_
    clear S; intro a S
    obtain ⟨t_17, et_17, h⟩ := bindS h
    refine w_go S rfl (op_calld (vs := [v0]) S rfl rfl cb50 rfl rfl rfl (c50 (Kx K w.heap.size [some b_5, some b_1]) n w_7 x0 _ R0 et_17) ?_)
    rintro _ w_21 ⟨v_18, rfl, R_19, hb_20⟩; refine ⟨_, rfl, ?_⟩
    replace R_19 := RepV.back R_19 W
    clear S; intro a S
    replace R0 := R0.step hb_20
    replace B_2 := B_2.step hb_20
    replace B_6 := B_6.step hb_20
    replace W := W.step hb_20
    refine w_go S rfl (op_alloc (K := K) (n := w.heap.size) (L := [some b_5, some b_1]) (t := (.st (.pair (.int .u8) (.pair (.int .u8) (.pair (.int .u8) (.sl .bool)))))) (y := (0, 0, 0, ⟨[], some 0⟩)) S rfl rfl rfl _ z66 (fun w K => ⟨[.int .u8 0], [.int .u8 0, .int .u8 0, .slice .none 0 0], rfl, ⟨rfl, by decide⟩, ⟨[.int .u8 0], [.int .u8 0, .slice .none 0 0], rfl, ⟨rfl, by decide⟩, ⟨[.int .u8 0], [.slice .none 0 0], rfl, ⟨rfl, by decide⟩, ⟨.none, 0, 0, rfl, rfl, Nat.le_refl _, by decide, fun k h => Option.some.inj h, .inl rfl⟩⟩⟩⟩) ?_)
    clear S; intro a w_24 b_22 hb_25 B_23 S
    replace R0 := R0.box hb_25
    replace R_19 := R_19.box hb_25
    replace B_2 := B_2.box hb_25
    replace B_6 := B_6.box hb_25
    replace W := W.box hb_25
    refine w_go S rfl (op_store (t' := (.st (.pair (.int .u8) (.pair (.int .u8) (.pair (.int .u8) (.sl .bool)))))) S rfl rfl ty66 rfl rfl rfl B_23 (by simp) Ln.whole R_19 ?_)
    intro w_26 hw_27 B_
    replace R0 := R0.wrote hw_27 (by simp)
    replace R_19 := R_19.wrote hw_27 (by simp)
    replace B_2 := B_2.wrote hw_27 (by simp) (W.bne (p := 2) (q := 0) (by decide) rfl rfl)
    replace B_6 := B_6.wrote hw_27 (by simp) (W.bne (p := 1) (q := 0) (by decide) rfl rfl)
    replace W := W.wrote hw_27 (by simp)
    replace B_23 : Bx (.st (.pair (.int .u8) (.pair (.int .u8) (.pair (.int .u8) (.sl .bool))))) 66 w_26 (Kx K w.heap.size [some b_22, some b_5, some b_1]) b_22 t_17 := B_; clear B_
    refine wpList_nil ?_
    refine then_n ?_
    replace S := S.sub (l' := [(11, .pointer (some (⟨b_22, 0, .none⟩ : Addr))), (10, .pointer (some (⟨b_5, 0, .none⟩ : Addr))), (8, .pointer (some (⟨b_1, 0, .none⟩ : Addr))), (0, v0), (3, .func (.func 27) #[] #[])]) (by exact ⟨rfl, rfl, rfl, rfl, rfl, trivial⟩)
    refine wp_seq ?_
    refine wp_seq ?_
    refine wp_region_lit ?_
    refine wl_pure (l' := [(23, .func (.func 27) #[] #[]), (11, .pointer (some (⟨b_22, 0, .none⟩ : Addr))), (10, .pointer (some (⟨b_5, 0, .none⟩ : Addr))), (8, .pointer (some (⟨b_1, 0, .none⟩ : Addr))), (0, v0), (3, .func (.func 27) #[] #[])]) S tys tys_ok 1 (by kernel_rfl) ?_
    clear S; intro a S
    refine w_go S rfl (op_load (t := (.st (.pair (.int .u8) (.pair (.int .u8) (.pair (.int .u8) (.sl .bool)))))) (x := t_17) S rfl ty66 rfl rfl rfl B_23.at_ ?_)
    clear S; intro a v_28 R_29 S
    obtain ⟨t_30, et_30, h⟩ := bindS h
    refine w_go S rfl (op_calld (vs := [v_28]) S rfl rfl cb27 rfl rfl rfl (c27 (Kx K w.heap.size [some b_22, some b_5, some b_1]) n w_26 t_17 _ R_29 et_30) ?_)
    rintro _ w_36 ⟨v_31, v_32, rfl, R_33, R_34, hb_35⟩; refine ⟨_, rfl, ?_⟩
    have NO_ := newO_of R_33 (Nat.le_refl _) hb_35
    replace R_33 := Ow.backO R_33 W
    replace R_34 := RepV.backO R_34 W
    clear S; intro a S
    replace R0 := R0.newO NO_
    replace R_29 := R_29.newO NO_
    replace B_2 := B_2.newO NO_
    replace B_6 := B_6.newO NO_
    replace B_23 := B_23.newO NO_
    replace W := W.newO NO_
    clear NO_
    obtain ⟨rfl, GR_34⟩ := RepV.int R_34
    refine wl_pure (l' := [(13, .int .i64 t_30.2), (12, v_31), (27, .int .i64 t_30.2), (26, v_31), (22, .tuple #[v_31, .int .i64 t_30.2]), (25, .tuple #[v_31, .int .i64 t_30.2]), (24, v_28), (23, .func (.func 27) #[] #[]), (11, .pointer (some (⟨b_22, 0, .none⟩ : Addr))), (10, .pointer (some (⟨b_5, 0, .none⟩ : Addr))), (8, .pointer (some (⟨b_1, 0, .none⟩ : Addr))), (0, v0), (3, .func (.func 27) #[] #[])]) S tys tys_ok 5 (by kernel_rfl) ?_
    clear S; intro a S
    refine wpList_nil ?_
    refine then_n ?_
    replace S := S.sub (l' := [(13, .int .i64 t_30.2), (12, v_31), (11, .pointer (some (⟨b_22, 0, .none⟩ : Addr))), (10, .pointer (some (⟨b_5, 0, .none⟩ : Addr))), (8, .pointer (some (⟨b_1, 0, .none⟩ : Addr))), (0, v0)]) (by exact ⟨rfl, rfl, rfl, rfl, rfl, rfl, trivial⟩)
    refine wp_seq ?_
    refine wp_region_lit ?_
    refine wl_pure (l' := [(30, .bool (t_30.2 != 0)), (29, .bool (t_30.2 != 0)), (28, .int .i64 t_30.2), (13, .int .i64 t_30.2), (12, v_31), (11, .pointer (some (⟨b_22, 0, .none⟩ : Addr))), (10, .pointer (some (⟨b_5, 0, .none⟩ : Addr))), (8, .pointer (some (⟨b_1, 0, .none⟩ : Addr))), (0, v0)]) S tys tys_ok 3 (by kernel_rfl) ?_
    clear S; intro a S
    obtain ⟨q_37, eq_37, h⟩ := bindS h
    refine seg 5 (fun a_ w_ => St 38 a_ [(35, .bool q_37), (11, .pointer (some (⟨b_22, 0, .none⟩ : Addr))), (10, .pointer (some (⟨b_5, 0, .none⟩ : Addr))), (8, .pointer (some (⟨b_1, 0, .none⟩ : Addr)))] ∧ Wd w w_ [v_31.ownBlock, some b_22, some b_5, some b_1] ∧ Bx (.st (.pair (.int .u8) (.pair (.int .u8) (.pair (.int .u8) (.sl .bool))))) 66 w_ (Kx K w.heap.size [v_31.ownBlock, some b_22, some b_5, some b_1]) b_1 (0, 0, 0, ⟨[], some 0⟩) ∧ Bx (.st (.pair (.int .u8) (.pair (.int .u8) (.pair (.int .u8) (.sl .bool))))) 66 w_ (Kx K w.heap.size [v_31.ownBlock, some b_22, some b_5, some b_1]) b_5 (0, 0, 0, ⟨[], some 0⟩) ∧ Bx (.st (.pair (.int .u8) (.pair (.int .u8) (.pair (.int .u8) (.sl .bool))))) 66 w_ (Kx K w.heap.size [v_31.ownBlock, some b_22, some b_5, some b_1]) b_22 t_17) ?_ ?_
    · by_cases hc : (t_30.2 != 0) = false
      · rw [if_pos hc] at eq_37; rw [hc] at S
        refine wl_pure (l' := [(32, v0), (31, v_31), (30, .bool false), (29, .bool false), (28, .int .i64 t_30.2), (13, .int .i64 t_30.2), (12, v_31), (11, .pointer (some (⟨b_22, 0, .none⟩ : Addr))), (10, .pointer (some (⟨b_5, 0, .none⟩ : Addr))), (8, .pointer (some (⟨b_1, 0, .none⟩ : Addr))), (0, v0)]) S tys tys_ok 2 (by kernel_rfl) ?_
        clear S; intro a S
        obtain ⟨t_38, et_38, eq_37⟩ := bindS eq_37
        refine w_go S rfl (op_call (vs := [v_31, v0]) S rfl cb55 rfl rfl rfl (c55 (Kx K w.heap.size []) n w_36 (⟨t_30.1.xs, t_30.1.cap⟩ : Sl (Int)) _ (Ow.read R_33) x0 _ R0.out et_38) ?_)
        rintro _ w_42 ⟨v_39, rfl, R_40, hb_41⟩; refine ⟨_, rfl, ?_⟩
        clear S; intro a S
        replace R0 := R0.step hb_41
        replace B_2 := B_2.step hb_41
        replace B_6 := B_6.step hb_41
        replace B_23 := B_23.step hb_41
        replace R_33 := R_33.step hb_41
        replace W := W.step hb_41
        obtain rfl := RepV.bool R_40
        refine wl_pure (l' := [(35, .bool (!t_38)), (34, .bool (!t_38)), (33, .bool t_38), (32, v0), (31, v_31), (30, .bool false), (29, .bool false), (28, .int .i64 t_30.2), (13, .int .i64 t_30.2), (12, v_31), (11, .pointer (some (⟨b_22, 0, .none⟩ : Addr))), (10, .pointer (some (⟨b_5, 0, .none⟩ : Addr))), (8, .pointer (some (⟨b_1, 0, .none⟩ : Addr))), (0, v0)]) S tys tys_ok 2 (by kernel_rfl) ?_
        clear S; intro a S
        obtain rfl := Option.some.inj eq_37
        exact ⟨S.sub (by exact ⟨rfl, rfl, rfl, rfl, trivial⟩), W, B_2, B_6, B_23⟩
      · rw [if_neg hc] at eq_37; rw [show (t_30.2 != 0) = true from (by simpa using hc)] at S
        refine wl_pure (l' := [(35, .bool true), (34, undef), (33, undef), (32, undef), (31, undef), (30, .bool true), (29, .bool true), (28, .int .i64 t_30.2), (13, .int .i64 t_30.2), (12, v_31), (11, .pointer (some (⟨b_22, 0, .none⟩ : Addr))), (10, .pointer (some (⟨b_5, 0, .none⟩ : Addr))), (8, .pointer (some (⟨b_1, 0, .none⟩ : Addr))), (0, v0)]) S tys tys_ok 5 (by kernel_rfl) ?_
        clear S; intro a S
        obtain rfl := Option.some.inj eq_37
        exact ⟨S.sub (by exact ⟨rfl, rfl, rfl, rfl, trivial⟩), W, B_2, B_6, B_23⟩
    clear S W eq_37; rintro a w_43 ⟨S, W, B_2, B_6, B_23⟩
    refine wpList_nil ?_
    refine then_n ?_
    refine wp_cond_split (S.eval (show ev _ _ = some (.bool q_37) from rfl)) ?_ ?_
    · intro hc
      rw [if_pos hc] at h
      refine wp_seq ?_
      refine wp_region_lit ?_
      refine w_go S rfl (op_load (t := (.st (.pair (.int .u8) (.pair (.int .u8) (.pair (.int .u8) (.sl .bool)))))) (x := (0, 0, 0, ⟨[], some 0⟩)) S rfl ty66 rfl rfl rfl B_6.at_ ?_)
      clear S; intro a v_44 R_45 S
      refine w_go S rfl (op_store (t' := (.st (.pair (.int .u8) (.pair (.int .u8) (.pair (.int .u8) (.sl .bool)))))) S rfl rfl ty66 rfl rfl rfl B_2 (by simp) Ln.whole R_45 ?_)
      intro w_46 hw_47 B_
      replace R_45 := R_45.wrote hw_47 (by simp)
      replace B_6 := B_6.wrote hw_47 (by simp) (W.bne (p := 2) (q := 3) (by decide) rfl rfl)
      replace B_23 := B_23.wrote hw_47 (by simp) (W.bne (p := 1) (q := 3) (by decide) rfl rfl)
      replace W := W.wrote hw_47 (by simp)
      replace B_2 : Bx (.st (.pair (.int .u8) (.pair (.int .u8) (.pair (.int .u8) (.sl .bool))))) 66 w_46 (Kx K w.heap.size [v_31.ownBlock, some b_22, some b_5, some b_1]) b_1 (0, 0, 0, ⟨[], some 0⟩) := B_; clear B_
      refine wl_pure (l' := [(9, .int .i64 4), (36, v_44), (35, .bool q_37), (11, .pointer (some (⟨b_22, 0, .none⟩ : Addr))), (10, .pointer (some (⟨b_5, 0, .none⟩ : Addr))), (8, .pointer (some (⟨b_1, 0, .none⟩ : Addr)))]) S tys tys_ok 1 (by kernel_rfl) ?_
      clear S; intro a S
      refine wpList_nil ?_
      refine then_n ?_
      replace S := S.sub (l' := [(9, .int .i64 4), (8, .pointer (some (⟨b_1, 0, .none⟩ : Addr)))]) (by exact ⟨rfl, rfl, trivial⟩)
      refine wp_ret ?_
      refine then_r ?_
      obtain ⟨v_48, hr_49, R_50⟩ := res_cell (P := Try.prog) (T := 66) (t := (.st (.pair (.int .u8) (.pair (.int .u8) (.pair (.int .u8) (.sl .bool)))))) (x := (0, 0, 0, ⟨[], some 0⟩)) S (s := 8) rfl ty66 B_2.at_
      obtain rfl := Option.some.inj h
      exact b_res2 S rfl hr_49 (res_tmp S rfl) ⟨_, _, rfl, R_50.out, (RepV.mkInt (by decide)), W.below⟩
    · intro hc
      rw [if_neg (Bool.eq_false_iff.1 hc)] at h
      refine wp_skip ?_
      refine then_n ?_
      replace S := S.sub (l' := [(11, .pointer (some (⟨b_22, 0, .none⟩ : Addr))), (8, .pointer (some (⟨b_1, 0, .none⟩ : Addr)))]) (by exact ⟨rfl, rfl, trivial⟩)
      refine wp_seq ?_
      refine wp_region_lit ?_
      refine w_go S rfl (op_load (t := (.st (.pair (.int .u8) (.pair (.int .u8) (.pair (.int .u8) (.sl .bool)))))) (x := t_17) S rfl ty66 rfl rfl rfl B_23.at_ ?_)
      clear S; intro a v_51 R_52 S
      refine w_go S rfl (op_store (t' := (.st (.pair (.int .u8) (.pair (.int .u8) (.pair (.int .u8) (.sl .bool)))))) S rfl rfl ty66 rfl rfl rfl B_2 (by simp) Ln.whole R_52 ?_)
      intro w_53 hw_54 B_
      replace R_52 := R_52.wrote hw_54 (by simp)
      replace B_6 := B_6.wrote hw_54 (by simp) (W.bne (p := 2) (q := 3) (by decide) rfl rfl)
      replace B_23 := B_23.wrote hw_54 (by simp) (W.bne (p := 1) (q := 3) (by decide) rfl rfl)
      replace W := W.wrote hw_54 (by simp)
      replace B_2 : Bx (.st (.pair (.int .u8) (.pair (.int .u8) (.pair (.int .u8) (.sl .bool))))) 66 w_53 (Kx K w.heap.size [v_31.ownBlock, some b_22, some b_5, some b_1]) b_1 t_17 := B_; clear B_
      refine wl_pure (l' := [(9, .int .i64 0), (37, v_51), (11, .pointer (some (⟨b_22, 0, .none⟩ : Addr))), (8, .pointer (some (⟨b_1, 0, .none⟩ : Addr)))]) S tys tys_ok 1 (by kernel_rfl) ?_
      clear S; intro a S
      refine wpList_nil ?_
      refine then_n ?_
      replace S := S.sub (l' := [(9, .int .i64 0), (8, .pointer (some (⟨b_1, 0, .none⟩ : Addr)))]) (by exact ⟨rfl, rfl, trivial⟩)
      refine wp_ret ?_
      obtain ⟨v_55, hr_56, R_57⟩ := res_cell (P := Try.prog) (T := 66) (t := (.st (.pair (.int .u8) (.pair (.int .u8) (.pair (.int .u8) (.sl .bool)))))) (x := t_17) S (s := 8) rfl ty66 B_2.at_
      obtain rfl := Option.some.inj h
      exact b_res2 S rfl hr_56 (res_tmp S rfl) ⟨_, _, rfl, R_57.out, (RepV.mkInt (by decide)), W.below⟩
theorem cb49 : callB Try.prog 49 = true := by kernel_rfl
def p29 (n : Nat) (x0 : Sl (Int)) : Option ((Int × Int × Int × (Sl (Bool))) × (Int)) :=
  (p49 n x0 9).bind fun t_5 =>
  some (t_5.1, t_5.2)
set_option maxHeartbeats 4000000 in
set_option maxRecDepth 100000 in
/-- plugboard/descriptors.DecodeHub -/
theorem c29 (K : Nat → Prop) (n : Nat) (w : World) (x0 : Sl (Int)) (v0 : Value) (R0 : RepV (.sl (.int .u8)) w K v0 x0) {r : (Int × Int × Int × (Sl (Bool))) × (Int)} (h : p29 n x0 = some r) :
    Calls Try.prog 29 #[v0] w (Ret2 (.st (.pair (.int .u8) (.pair (.int .u8) (.pair (.int .u8) (.sl .bool))))) (.int .i64) w (Kx K w.heap.size []) r) := by
  refine enter (args := [v0]) Try.func29 rfl 8 rfl rfl fun a S => ?_
  have W := Wd.start w
  replace R0 := R0.arg
  unfold p29 at h
  replace S : St 8 a [(0, v0)] := S
  refine wp_seq ?_
  refine wp_region_lit ?_
  refine w_go S rfl (op_alloc (K := K) (n := w.heap.size) (L := []) (t := (.st (.pair (.int .u8) (.pair (.int .u8) (.pair (.int .u8) (.sl .bool)))))) (y := (0, 0, 0, ⟨[], some 0⟩)) S rfl rfl rfl _ z66 (fun w K => ⟨[.int .u8 0], [.int .u8 0, .int .u8 0, .slice .none 0 0], rfl, ⟨rfl, by decide⟩, ⟨[.int .u8 0], [.int .u8 0, .slice .none 0 0], rfl, ⟨rfl, by decide⟩, ⟨[.int .u8 0], [.slice .none 0 0], rfl, ⟨rfl, by decide⟩, ⟨.none, 0, 0, rfl, rfl, Nat.le_refl _, by decide, fun k h => Option.some.inj h, .inl rfl⟩⟩⟩⟩) ?_)
  clear S; intro a w_3 b_1 hb_4 B_2 S
  replace R0 := R0.box hb_4
  replace W := W.box hb_4
  refine wl_pure (l' := [(3, .int .i64 0), (2, .pointer (some (⟨b_1, 0, .none⟩ : Addr))), (0, v0)]) S tys tys_ok 1 (by kernel_rfl) ?_
  clear S; intro a S
  refine wpList_nil ?_
  refine then_n ?_
  replace S := S.sub (l' := [(2, .pointer (some (⟨b_1, 0, .none⟩ : Addr))), (0, v0)]) (by exact ⟨rfl, rfl, trivial⟩)
  refine wp_seq ?_
  refine wp_region_lit ?_
  refine wl_pure (l' := [(4, v0), (2, .pointer (some (⟨b_1, 0, .none⟩ : Addr))), (0, v0)]) S tys tys_ok 1 (by kernel_rfl) ?_
  clear S; intro a S
  obtain ⟨t_5, et_5, h⟩ := bindS h
  refine w_go S rfl (op_call (vs := [v0, .int .i64 9, .func (.func 50) #[] #[], .func (.func 27) #[] #[]]) S rfl cb49 rfl rfl rfl (c49 (Kx K w.heap.size [some b_1]) n w_3 x0 _ R0 9 (by decide) et_5) ?_)
  rintro _ w_11 ⟨v_6, v_7, rfl, R_8, R_9, hb_10⟩; refine ⟨_, rfl, ?_⟩
  replace R_8 := RepV.back R_8 W
  replace R_9 := RepV.back R_9 W
  clear S; intro a S
  replace R0 := R0.step hb_10
  replace B_2 := B_2.step hb_10
  replace W := W.step hb_10
  obtain ⟨rfl, GR_9⟩ := RepV.int R_9
  refine wl_pure (l' := [(7, .int .i64 t_5.2), (6, v_6), (5, .tuple #[v_6, .int .i64 t_5.2]), (4, v0), (2, .pointer (some (⟨b_1, 0, .none⟩ : Addr))), (0, v0)]) S tys tys_ok 2 (by kernel_rfl) ?_
  clear S; intro a S
  refine w_go S rfl (op_store (t' := (.st (.pair (.int .u8) (.pair (.int .u8) (.pair (.int .u8) (.sl .bool)))))) S rfl rfl ty66 rfl rfl rfl B_2 (by simp) Ln.whole R_8 ?_)
  intro w_12 hw_13 B_
  replace R0 := R0.wrote hw_13 (by simp)
  replace R_8 := R_8.wrote hw_13 (by simp)
  replace W := W.wrote hw_13 (by simp)
  replace B_2 : Bx (.st (.pair (.int .u8) (.pair (.int .u8) (.pair (.int .u8) (.sl .bool))))) 66 w_12 (Kx K w.heap.size [some b_1]) b_1 t_5.1 := B_; clear B_
  refine wl_pure (l' := [(3, .int .i64 t_5.2), (7, .int .i64 t_5.2), (6, v_6), (5, .tuple #[v_6, .int .i64 t_5.2]), (4, v0), (2, .pointer (some (⟨b_1, 0, .none⟩ : Addr))), (0, v0)]) S tys tys_ok 1 (by kernel_rfl) ?_
  clear S; intro a S
  refine wpList_nil ?_
  refine then_n ?_
  replace S := S.sub (l' := [(3, .int .i64 t_5.2), (2, .pointer (some (⟨b_1, 0, .none⟩ : Addr)))]) (by exact ⟨rfl, rfl, trivial⟩)
  refine wp_ret ?_
  obtain ⟨v_14, hr_15, R_16⟩ := res_cell (P := Try.prog) (T := 66) (t := (.st (.pair (.int .u8) (.pair (.int .u8) (.pair (.int .u8) (.sl .bool)))))) (x := t_5.1) S (s := 2) rfl ty66 B_2.at_
  obtain rfl := Option.some.inj h
  exact b_res2 S rfl hr_15 (res_tmp S rfl) ⟨_, _, rfl, R_16.out, (RepV.mkInt GR_9), W.below⟩
theorem cb29 : callB Try.prog 29 = true := by kernel_rfl

end Go.Proofs.Ytojifdijcanbpaa
