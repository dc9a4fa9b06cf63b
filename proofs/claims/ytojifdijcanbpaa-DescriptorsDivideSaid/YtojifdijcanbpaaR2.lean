/- x. -/
import Derived.Test.YtojifdijcanbpaaR1
set_option linter.unusedVariables false
set_option linter.unusedSimpArgs false
namespace Go.Proofs.Ytojifdijcanbpaa
open Go.RowKit

def p3_l2 (n : Nat) (x0 : Sl (List (Int))) (c_9 : Int) (x_40 : Int) : Nat → (Int) → (List (Int)) → Option ((List (Int)))
  | 0, _, _ => .none
  | m + 1, c_46, c_48 => if (decide (c_46 < x_40)) then ((idx x0.xs c_9).bind fun y_62 => (idx y_62 1).bind fun y_66 => (idx c_48 c_46).bind fun y_69 => (ckI .i64 (c_46 + 1)).bind fun x_77 => p3_l2 n x0 c_9 x_40 m x_77 (c_48.set c_46.toNat y_66)) else some c_48
def p3_l1 (n : Nat) (x0 : Sl (List (Int))) : Nat → (Int) → (List (List Int)) → (List Int) → Option ((List Int) × (List (List Int)))
  | 0, _, _, _ => .none
  | m + 1, c_9, c_11, c_14 => if (decide (c_9 < (lenI x0))) then ((idx x0.xs c_9).bind fun y_32 => (idx y_32 0).bind fun y_36 => (remI .i64 y_36 254).bind fun x_39 => (ckI .i64 (2 + x_39)).bind fun x_40 => (mkI x_40 x_40).bind fun m_41 => (p3_l2 n x0 c_9 x_40 n 0 (List.replicate m_41.1 (0 : Int))).bind fun (y_56 : (List (Int))) => (idx y_56 0).bind fun y_79 => (appI c_11 ([(⟨(y_56.set (0 : Int).toNat (IntKind.wrap .u8 x_40)), some m_41.2⟩ : Sl Int).xs])).bind fun l_91 => (catS c_14 ((⟨(y_56.set (0 : Int).toNat (IntKind.wrap .u8 x_40)), some m_41.2⟩ : Sl Int).xs)).bind fun s_96 => (ckI .i64 (c_9 + 1)).bind fun x_97 => p3_l1 n x0 m x_97 l_91 s_96) else some (c_14, c_11)
def p3_l3 (n : Nat) (y_23 : (List Int) × (List (List Int))) (t_103 : (Sl (Sl (Int))) × (Int)) : Nat → (Int) → Option ((Unit) ⊕ ((Bool)))
  | 0, _ => .none
  | m + 1, c_122 => if (decide (c_122 < (lenI t_103.1))) then ((idx t_103.1.xs c_122).bind fun y_132 => (idx y_23.2 c_122).bind fun y_138 => (if (!(decide (y_132.xs = y_138))) = false then (idx t_103.1.xs c_122).bind fun y_146 => (capO y_146).bind fun x_153 => (idx t_103.1.xs c_122).bind fun y_154 => some (x_153 != (lenI y_154)) else some true).bind fun q_144 => if q_144 then (some (.inr false)) else (ckI .i64 (c_122 + 1)).bind fun x_372 => p3_l3 n y_23 t_103 m x_372) else some (.inl ())
def p3_l4 (n : Nat) (x1 : Sl (Int)) : Nat → (Int) → (Int) → Option ((Int) × (Int))
  | 0, _, _ => .none
  | m + 1, c_381, c_383 => (if (decide (c_383 < (lenI x1))) = true then (idx x1.xs c_383).bind fun y_397 => some (decide (y_397 > 1)) else some false).bind fun q_396 => (if q_396 = true then (idx x1.xs c_383).bind fun y_404 => (ckI .i64 (c_383 + y_404)).bind fun x_410 => some (decide (x_410 ≤ (lenI x1))) else some false).bind fun q_403 => if q_403 then ((idx x1.xs c_383).bind fun y_412 => (ckI .i64 (c_383 + y_412)).bind fun x_418 => (ckI .i64 (c_381 + 1)).bind fun x_419 => p3_l4 n x1 m x_419 x_418) else some (c_383, c_381)
def p3_l5 (n : Nat) (t_374 : (Sl (Sl (Int))) × (Int)) : Nat → (Int) → (List Int) → Option (((List Int)) ⊕ ((Bool)))
  | 0, _, _ => .none
  | m + 1, c_432, c_434 => if (decide (c_432 < (lenI t_374.1))) then ((idx t_374.1.xs c_432).bind fun y_447 => (if (decide ((lenI y_447) < 2)) = false then (idx t_374.1.xs c_432).bind fun y_456 => (idx y_456.xs 0).bind fun y_462 => (idx t_374.1.xs c_432).bind fun y_468 => some (y_462 != (lenI y_468)) else some true).bind fun q_454 => if q_454 then (some (.inr false)) else (idx t_374.1.xs c_432).bind fun y_689 => (catS c_434 y_689.xs).bind fun s_695 => (ckI .i64 (c_432 + 1)).bind fun x_696 => p3_l5 n t_374 m x_696 s_695) else some (.inl c_434)
def p3 (n : Nat) (x0 : Sl (List (Int))) (x1 : Sl (Int)) : Option ((Bool)) :=
  (if (decide ((lenI x0) > 40)) = false then some (decide ((lenI x1) > 300)) else some true).bind fun q_2 =>
  if q_2 then ((p11 n).bind fun t_4 => some t_4) else (p3_l1 n x0 n 0 [] []).bind fun (y_23 : (List Int) × (List (List Int))) => (p12 n (⟨y_23.1, .none⟩ : Sl Int)).bind fun t_103 => (if (decide ((lenS y_23.1) > 4096)) then ((if (t_103.2 != 3) = false then some ((lenI t_103.1) != 0) else some true).bind fun q_112 => if q_112 then (some (.inr false)) else some (.inl ())) else (if (t_103.2 != 0) = false then some ((lenI t_103.1) != (lenI (⟨y_23.2, .none⟩ : Sl (List Int)))) else some true).bind fun q_114 => (if q_114 = false then (capO t_103.1).bind fun x_119 => some (x_119 != (lenI t_103.1)) else some true).bind fun q_117 => if q_117 then (some (.inr false)) else some (.inl ())).bind fun (j_110 : (Unit) ⊕ ((Bool))) => lrK j_110 some fun (s_111 : Unit) => (p3_l3 n y_23 t_103 n 0).bind fun (y_126 : (Unit) ⊕ ((Bool))) => lrK y_126 some fun (s_127 : Unit) => (p12 n x1).bind fun t_374 => (p3_l4 n x1 n 0 0).bind fun (y_389 : (Int) × (Int)) => if (decide (y_389.1 < (lenI x1))) then ((if (t_374.2 == 4) = true then some ((lenI t_374.1) == 0) else some false).bind fun q_422 => (if q_422 = true then some (decide (x1.xs = x1.xs)) else some false).bind fun q_424 => (if q_424 = true then (p11 n).bind fun t_426 => some t_426 else some false).bind fun q_425 => some q_425) else (p3_l5 n t_374 n 0 []).bind fun (y_440 : ((List Int)) ⊕ ((Bool))) => lrK y_440 some fun (s_441 : (List Int)) => (if (t_374.2 == 0) = true then some ((lenI t_374.1) == y_389.2) else some false).bind fun q_698 => (if q_698 = true then some (decide (s_441 = x1.xs)) else some false).bind fun q_700 => (if q_700 = true then some (decide (x1.xs = x1.xs)) else some false).bind fun q_701 => (if q_701 = true then (p11 n).bind fun t_703 => some t_703 else some false).bind fun q_702 => some q_702
set_option maxHeartbeats 4000000 in
set_option maxRecDepth 100000 in
/-- plugboard/plugboardlaw13.DescriptorsDivide -/
theorem c3 (K : Nat → Prop) (n : Nat) (w : World) (x0 : Sl (List (Int))) (v0 : Value) (R0 : RepV (.sl (.arr 2 (.int .u8))) w K v0 x0) (x1 : Sl (Int)) (v1 : Value) (R1 : RepV (.sl (.int .u8)) w K v1 x1) {r : (Bool)} (h : p3 n x0 x1 = some r) :
    Calls Try.prog 3 #[v0, v1] w (Ret1 .bool w (Kx K w.heap.size []) r) := by
  refine enter (args := [v0, v1]) Try.func3 rfl 246 rfl rfl fun a S => ?_
  have W := Wd.start w
  replace R0 := R0.arg
  replace R1 := R1.arg
  unfold p3 at h
  replace S : St 246 a [(0, v0), (1, v1)] := S
  refine wp_seq ?_
  refine wp_region_lit ?_
  refine wl_pure (l' := [(4, .bool false), (0, v0), (1, v1)]) S tys tys_ok 1 (by kernel_rfl) ?_
  clear S; intro a S
  refine wpList_nil ?_
  refine then_n ?_
  replace S := S.sub (l' := [(0, v0), (1, v1)]) (by exact ⟨rfl, rfl, trivial⟩)
  refine wp_seq ?_
  refine wp_seq ?_
  refine wp_region_lit ?_
  refine wl_pure (l' := [(19, v0), (0, v0), (1, v1)]) S tys tys_ok 1 (by kernel_rfl) ?_
  clear S; intro a S
  refine w_go S rfl (op_len (K := _) S rfl ty22 rfl rfl rfl R0 ?_)
  clear S; intro a G_1 S
  refine wl_pure (l' := [(22, .bool (decide ((lenI x0) > 40))), (21, .bool (decide ((lenI x0) > 40))), (20, .int .i64 (lenI x0)), (19, v0), (0, v0), (1, v1)]) S tys tys_ok 2 (by kernel_rfl) ?_
  clear S; intro a S
  obtain ⟨q_2, eq_2, h⟩ := bindS h
  refine seg 4 (fun a_ w_ => w = w_ ∧ St 246 a_ [(26, .bool q_2), (0, v0), (1, v1)]) ?_ ?_
  · by_cases hc : (decide ((lenI x0) > 40)) = false
    · rw [if_pos hc] at eq_2; rw [hc] at S
      refine wl_pure (l' := [(23, v1), (22, .bool false), (21, .bool false), (20, .int .i64 (lenI x0)), (19, v0), (0, v0), (1, v1)]) S tys tys_ok 1 (by kernel_rfl) ?_
      clear S; intro a S
      refine w_go S rfl (op_len (K := _) S rfl ty23 rfl rfl rfl R1 ?_)
      clear S; intro a G_3 S
      refine wl_pure (l' := [(26, .bool (decide ((lenI x1) > 300))), (25, .bool (decide ((lenI x1) > 300))), (24, .int .i64 (lenI x1)), (23, v1), (22, .bool false), (21, .bool false), (20, .int .i64 (lenI x0)), (19, v0), (0, v0), (1, v1)]) S tys tys_ok 2 (by kernel_rfl) ?_
      clear S; intro a S
      obtain rfl := Option.some.inj eq_2
      exact ⟨rfl, S.sub (by exact ⟨rfl, rfl, rfl, trivial⟩)⟩
    · rw [if_neg hc] at eq_2; rw [show (decide ((lenI x0) > 40)) = true from (by simpa using hc)] at S
      refine wl_pure (l' := [(26, .bool true), (25, undef), (24, undef), (23, undef), (22, .bool true), (21, .bool true), (20, .int .i64 (lenI x0)), (19, v0), (0, v0), (1, v1)]) S tys tys_ok 4 (by kernel_rfl) ?_
      clear S; intro a S
      obtain rfl := Option.some.inj eq_2
      exact ⟨rfl, S.sub (by exact ⟨rfl, rfl, rfl, trivial⟩)⟩
  clear S eq_2; rintro a _ ⟨rfl, S⟩
  refine wpList_nil ?_
  refine then_n ?_
  refine wp_cond_split (S.eval (show ev _ _ = some (.bool q_2) from rfl)) ?_ ?_
  · intro hc
    rw [if_pos hc] at h
    refine wp_seq ?_
    refine wp_region_lit ?_
    obtain ⟨t_4, et_4, h⟩ := bindS h
    refine w_go S rfl (op_call (vs := []) S rfl cb11 rfl rfl rfl (c11 (Kx K w.heap.size []) n w  et_4) ?_)
    rintro _ w_8 ⟨v_5, rfl, R_6, hb_7⟩; refine ⟨_, rfl, ?_⟩
    replace R_6 := RepV.back R_6 W
    clear S; intro a S
    replace R0 := R0.step hb_7
    replace R1 := R1.step hb_7
    replace W := W.step hb_7
    obtain rfl := RepV.bool R_6
    refine wl_pure (l' := [(4, .bool t_4), (27, .bool t_4), (26, .bool q_2), (0, v0), (1, v1)]) S tys tys_ok 1 (by kernel_rfl) ?_
    clear S; intro a S
    refine wpList_nil ?_
    refine then_n ?_
    replace S := S.sub (l' := [(4, .bool t_4)]) (by exact ⟨rfl, trivial⟩)
    refine wp_ret ?_
    refine then_r ?_
    obtain rfl := Option.some.inj h
    exact b_ret1 S rfl rfl ⟨_, rfl, RepV.mkBool, W.below⟩
  · intro hc
    rw [if_neg (Bool.eq_false_iff.1 hc)] at h
    refine wp_skip ?_
    refine then_n ?_
    replace S := S.sub (l' := [(0, v0), (1, v1)]) (by exact ⟨rfl, rfl, trivial⟩)
    refine wp_seq ?_
    refine wp_region_lit ?_
    refine wl_pure (l' := [(5, .string (strOfNums ([]))), (0, v0), (1, v1)]) S tys tys_ok 1 (by kernel_rfl) ?_
    clear S; intro a S
    refine wpList_nil ?_
    refine then_n ?_
    refine wp_seq ?_
    refine wp_region_lit ?_
    refine wl_pure (l' := [(6, .slice .none 0 0), (5, .string (strOfNums ([]))), (0, v0), (1, v1)]) S tys tys_ok 1 (by kernel_rfl) ?_
    clear S; intro a S
    refine wpList_nil ?_
    refine then_n ?_
    refine wp_seq ?_
    refine wp_seq ?_
    refine wp_region_lit ?_
    refine wl_pure (l' := [(7, .int .i64 0), (6, .slice .none 0 0), (5, .string (strOfNums ([]))), (0, v0), (1, v1)]) S tys tys_ok 1 (by kernel_rfl) ?_
    clear S; intro a S
    refine wpList_nil ?_
    refine then_n ?_
    obtain ⟨y_23, ey_23, h⟩ := bindS h
    refine wp_cut_ (fun a_ w_ => ∃ (v_25 : Value), St 246 a_ [(1, v1), (5, .string (strOfNums y_23.1)), (6, v_25)] ∧ Wd w w_ [v_25.ownBlock] ∧ (Byt y_23.1 ∧ (y_23.1).length ≤ 9223372036854775807) ∧ RepV (.sl (.int .u8)) w_ (Kx K w.heap.size [v_25.ownBlock]) v1 x1 ∧ Ow .str 9 w_ w.heap.size (Kx K w.heap.size [v_25.ownBlock]) v_25 y_23.2 .none) ?_ ?_
    · refine wp_block ?_
      refine wp_loop_n (fun m_ a_ w_ => ∃ (c_9 : Int) (c_11 : List (List Int)) (c_14 : List Int) , ∃ (v_12 : Value), St 246 a_ [(7, .int .i64 c_9), (6, v_12), (5, .string (strOfNums c_14)), (0, v0), (1, v1)] ∧ Wd w w_ [v_12.ownBlock] ∧ InR .i64 c_9 ∧ (Byt c_14 ∧ (c_14).length ≤ 9223372036854775807) ∧ RepV (.sl (.arr 2 (.int .u8))) w_ (Kx K w.heap.size [v_12.ownBlock]) v0 x0 ∧ RepV (.sl (.int .u8)) w_ (Kx K w.heap.size [v_12.ownBlock]) v1 x1 ∧ Ow .str 9 w_ w.heap.size (Kx K w.heap.size [v_12.ownBlock]) v_12 c_11 .none ∧ p3_l1 n x0 m_ c_9 c_11 c_14 = some y_23) n ?_ ?_
      · skip
        replace R0 := R0.more
        replace R1 := R1.more
        replace W := W.more
        have O_29 : Ow .str 9 w w.heap.size (Kx K w.heap.size [.none]) (.slice .none 0 0) ([] : List (List Int)) (some 0) := Ow.nil
        exact ⟨0, [], [], ⟨(.slice .none 0 0), S.sub (by exact ⟨rfl, rfl, rfl, rfl, rfl, trivial⟩), W, (by decide), (strG ([]) (by decide) (by decide)), R0, R1, O_29.forget, ey_23⟩⟩
      · clear S W; rintro m_27 a w_30 ⟨c_9, c_11, c_14, v_12, S, W, G_10, G_15, R0, R1, O_13, hl_28⟩
        cases m_27 with
        | zero => exact absurd hl_28 (by simp [p3_l1])
        | succ m_27 =>
          refine ⟨m_27, rfl, ?_⟩
          rw [p3_l1] at hl_28
          refine wp_seq ?_
          refine wp_seq ?_
          refine wp_region_lit ?_
          refine wl_pure (l' := [(29, v0), (28, .int .i64 c_9), (7, .int .i64 c_9), (6, v_12), (5, .string (strOfNums c_14)), (0, v0), (1, v1)]) S tys tys_ok 2 (by kernel_rfl) ?_
          clear S; intro a S
          refine w_go S rfl (op_len (K := _) S rfl ty22 rfl rfl rfl R0 ?_)
          clear S; intro a G_31 S
          refine wl_pure (l' := [(31, .bool (decide (c_9 < (lenI x0)))), (30, .int .i64 (lenI x0)), (29, v0), (28, .int .i64 c_9), (7, .int .i64 c_9), (6, v_12), (5, .string (strOfNums c_14)), (0, v0), (1, v1)]) S tys tys_ok 1 (by kernel_rfl) ?_
          clear S; intro a S
          refine wpList_nil ?_
          refine then_n ?_
          replace S := S.sub (l' := [(31, .bool (decide (c_9 < (lenI x0)))), (7, .int .i64 c_9), (6, v_12), (5, .string (strOfNums c_14)), (0, v0), (1, v1)]) (by exact ⟨rfl, rfl, rfl, rfl, rfl, rfl, trivial⟩)
          refine wp_cond_split (S.eval (show ev _ _ = some (.bool (decide (c_9 < (lenI x0)))) from rfl)) ?_ ?_
          · intro hc
            rw [if_pos hc] at hl_28
            refine wp_skip ?_
            refine then_n ?_
            replace S := S.sub (l' := [(7, .int .i64 c_9), (6, v_12), (5, .string (strOfNums c_14)), (0, v0), (1, v1)]) (by exact ⟨rfl, rfl, rfl, rfl, rfl, trivial⟩)
            refine wp_seq ?_
            refine wp_block ?_
            refine wp_seq ?_
            refine wp_region_lit ?_
            refine wl_pure (l' := [(35, .int .i64 c_9), (34, v0), (7, .int .i64 c_9), (6, v_12), (5, .string (strOfNums c_14)), (0, v0), (1, v1)]) S tys tys_ok 2 (by kernel_rfl) ?_
            clear S; intro a S
            obtain ⟨y_32, ey_32, hl_28⟩ := bindS hl_28
            refine w_go S rfl (op_indexAddr S rfl ty22 rfl rfl rfl R0 rfl ey_32 ?_)
            clear S; intro a p_33 R_34 H_35 S
            obtain ⟨y_36, ey_36, hl_28⟩ := bindS hl_28
            refine w_go S rfl (op_indexAddr_arr S rfl ty26 rfl rfl rfl R_34 rfl ey_36 ?_)
            clear S; intro a S
            refine w_go S rfl (op_load (t := (.int .u8)) (x := y_36) S rfl ty5 rfl rfl rfl (RepAt.ix R_34 ey_36) ?_)
            clear S; intro a v_37 R_38 S
            obtain ⟨rfl, GR_38⟩ := RepV.int R_38
            refine w_go S rfl (op_conv S .i64 .bool .bool rfl ty5 ty3 rfl rfl rfl (widen GR_38 (by decide)).1 ?_)
            clear S; intro a S
            obtain ⟨x_39, ex_39, hl_28⟩ := bindS hl_28
            refine w_go S rfl (op_rem S .i64 rfl rfl rfl rfl rfl ex_39 ?_)
            clear S; intro a S
            obtain ⟨x_40, ex_40, hl_28⟩ := bindS hl_28
            refine w_go S rfl (op_arith S .i64 (2 + x_39) rfl (.inl rfl) rfl rfl rfl rfl ex_40 ?_)
            clear S; intro a S
            refine wl_pure (l' := [(8, .int .i64 x_40), (41, .int .i64 x_40), (40, .int .i64 x_39), (39, .int .i64 y_36), (38, .int .u8 y_36), (37, .pointer (some (p_33.add ((0 : Int).toNat * GT.sz (.int .u8))))), (36, .pointer (some p_33)), (35, .int .i64 c_9), (34, v0), (7, .int .i64 c_9), (6, v_12), (5, .string (strOfNums c_14)), (0, v0), (1, v1)]) S tys tys_ok 1 (by kernel_rfl) ?_
            clear S; intro a S
            refine wpList_nil ?_
            refine then_n ?_
            replace S := S.sub (l' := [(8, .int .i64 x_40), (7, .int .i64 c_9), (6, v_12), (5, .string (strOfNums c_14)), (0, v0), (1, v1)]) (by exact ⟨rfl, rfl, rfl, rfl, rfl, rfl, trivial⟩)
            refine wp_seq ?_
            refine wp_region_lit ?_
            refine wl_pure (l' := [(42, .int .i64 x_40), (8, .int .i64 x_40), (7, .int .i64 c_9), (6, v_12), (5, .string (strOfNums c_14)), (0, v0), (1, v1)]) S tys tys_ok 1 (by kernel_rfl) ?_
            clear S; intro a S
            obtain ⟨m_41, em_41, hl_28⟩ := bindS hl_28
            refine w_go S rfl (op_make (K := K) (z0 := 0) S W _ rfl ty23 un23 by23 z5 (fun w K => ⟨rfl, by decide⟩) rfl rfl rfl rfl em_41 ?_)
            clear S; intro a w_43 b_42 hb_44 O_45 S
            replace R0 := R0.box hb_44
            replace R1 := R1.box hb_44
            replace O_13 := O_13.box hb_44
            replace W := W.box hb_44
            replace O_45 : Ow (.int .u8) 5 w_43 w.heap.size (Kx K w.heap.size [some b_42, v_12.ownBlock]) (.slice (some ⟨b_42, 0, .none⟩) m_41.1 m_41.2) (List.replicate m_41.1 (0 : Int)) (some m_41.2) := O_45
            refine wl_pure (l' := [(9, (.slice (some ⟨b_42, 0, .none⟩) m_41.1 m_41.2)), (43, (.slice (some ⟨b_42, 0, .none⟩) m_41.1 m_41.2)), (42, .int .i64 x_40), (8, .int .i64 x_40), (7, .int .i64 c_9), (6, v_12), (5, .string (strOfNums c_14)), (0, v0), (1, v1)]) S tys tys_ok 1 (by kernel_rfl) ?_
            clear S; intro a S
            refine wpList_nil ?_
            refine then_n ?_
            replace S := S.sub (l' := [(9, (.slice (some ⟨b_42, 0, .none⟩) m_41.1 m_41.2)), (8, .int .i64 x_40), (7, .int .i64 c_9), (6, v_12), (5, .string (strOfNums c_14)), (0, v0), (1, v1)]) (by exact ⟨rfl, rfl, rfl, rfl, rfl, rfl, rfl, trivial⟩)
            refine wp_seq ?_
            refine wp_seq ?_
            refine wp_region_lit ?_
            refine wl_pure (l' := [(10, .int .i64 0), (9, (.slice (some ⟨b_42, 0, .none⟩) m_41.1 m_41.2)), (8, .int .i64 x_40), (7, .int .i64 c_9), (6, v_12), (5, .string (strOfNums c_14)), (0, v0), (1, v1)]) S tys tys_ok 1 (by kernel_rfl) ?_
            clear S; intro a S
            refine wpList_nil ?_
            refine then_n ?_
            obtain ⟨y_56, ey_56, hl_28⟩ := bindS hl_28
            refine wp_cut_ (fun a_ w_ => ∃ (v_57 : Value), St 246 a_ [(0, v0), (1, v1), (5, .string (strOfNums c_14)), (6, v_12), (7, .int .i64 c_9), (8, .int .i64 x_40), (9, v_57)] ∧ Wd w w_ [v_57.ownBlock, v_12.ownBlock] ∧ RepV (.sl (.arr 2 (.int .u8))) w_ (Kx K w.heap.size [v_57.ownBlock, v_12.ownBlock]) v0 x0 ∧ RepV (.sl (.int .u8)) w_ (Kx K w.heap.size [v_57.ownBlock, v_12.ownBlock]) v1 x1 ∧ Ow .str 9 w_ w.heap.size (Kx K w.heap.size [v_57.ownBlock, v_12.ownBlock]) v_12 c_11 .none ∧ Ow (.int .u8) 5 w_ w.heap.size (Kx K w.heap.size [v_57.ownBlock, v_12.ownBlock]) v_57 y_56 (some m_41.2)) ?_ ?_
            · refine wp_block ?_
              refine wp_loop_n (fun m_ a_ w_ => ∃ (c_46 : Int) (c_48 : List (Int)) , ∃ (v_49 : Value), St 246 a_ [(10, .int .i64 c_46), (9, v_49), (8, .int .i64 x_40), (7, .int .i64 c_9), (6, v_12), (5, .string (strOfNums c_14)), (0, v0), (1, v1)] ∧ Wd w w_ [v_49.ownBlock, v_12.ownBlock] ∧ InR .i64 c_46 ∧ RepV (.sl (.arr 2 (.int .u8))) w_ (Kx K w.heap.size [v_49.ownBlock, v_12.ownBlock]) v0 x0 ∧ RepV (.sl (.int .u8)) w_ (Kx K w.heap.size [v_49.ownBlock, v_12.ownBlock]) v1 x1 ∧ Ow (.int .u8) 5 w_ w.heap.size (Kx K w.heap.size [v_49.ownBlock, v_12.ownBlock]) v_49 c_48 (some m_41.2) ∧ Ow .str 9 w_ w.heap.size (Kx K w.heap.size [v_49.ownBlock, v_12.ownBlock]) v_12 c_11 .none ∧ p3_l2 n x0 c_9 x_40 m_ c_46 c_48 = some y_56) n ?_ ?_
              · skip
                exact ⟨0, (List.replicate m_41.1 (0 : Int)), ⟨(.slice (some ⟨b_42, 0, .none⟩) m_41.1 m_41.2), S.sub (by exact ⟨rfl, rfl, rfl, rfl, rfl, rfl, rfl, rfl, trivial⟩), W, (by decide), R0, R1, O_45, O_13, ey_56⟩⟩
              · clear S W; rintro m_59 a w_61 ⟨c_46, c_48, v_49, S, W, G_47, R0, R1, O_50, O_13, hl_60⟩
                cases m_59 with
                | zero => exact absurd hl_60 (by simp [p3_l2])
                | succ m_59 =>
                  refine ⟨m_59, rfl, ?_⟩
                  rw [p3_l2] at hl_60
                  refine wp_seq ?_
                  refine wp_seq ?_
                  refine wp_region_lit ?_
                  refine wl_pure (l' := [(46, .bool (decide (c_46 < x_40))), (45, .int .i64 x_40), (44, .int .i64 c_46), (10, .int .i64 c_46), (9, v_49), (8, .int .i64 x_40), (7, .int .i64 c_9), (6, v_12), (5, .string (strOfNums c_14)), (0, v0), (1, v1)]) S tys tys_ok 3 (by kernel_rfl) ?_
                  clear S; intro a S
                  refine wpList_nil ?_
                  refine then_n ?_
                  replace S := S.sub (l' := [(46, .bool (decide (c_46 < x_40))), (10, .int .i64 c_46), (9, v_49), (8, .int .i64 x_40), (7, .int .i64 c_9), (6, v_12), (5, .string (strOfNums c_14)), (0, v0), (1, v1)]) (by exact ⟨rfl, rfl, rfl, rfl, rfl, rfl, rfl, rfl, rfl, trivial⟩)
                  refine wp_cond_split (S.eval (show ev _ _ = some (.bool (decide (c_46 < x_40))) from rfl)) ?_ ?_
                  · intro hc
                    rw [if_pos hc] at hl_60
                    refine wp_skip ?_
                    refine then_n ?_
                    replace S := S.sub (l' := [(10, .int .i64 c_46), (9, v_49), (8, .int .i64 x_40), (7, .int .i64 c_9), (6, v_12), (5, .string (strOfNums c_14)), (0, v0), (1, v1)]) (by exact ⟨rfl, rfl, rfl, rfl, rfl, rfl, rfl, rfl, trivial⟩)
                    refine wp_seq ?_
                    refine wp_block ?_
                    refine wp_region_lit ?_
                    refine wl_pure (l' := [(52, .int .i64 c_9), (51, v0), (50, .int .i64 c_46), (49, v_49), (10, .int .i64 c_46), (9, v_49), (8, .int .i64 x_40), (7, .int .i64 c_9), (6, v_12), (5, .string (strOfNums c_14)), (0, v0), (1, v1)]) S tys tys_ok 4 (by kernel_rfl) ?_
                    clear S; intro a S
                    obtain ⟨y_62, ey_62, hl_60⟩ := bindS hl_60
                    refine w_go S rfl (op_indexAddr S rfl ty22 rfl rfl rfl R0 rfl ey_62 ?_)
                    clear S; intro a p_63 R_64 H_65 S
                    obtain ⟨y_66, ey_66, hl_60⟩ := bindS hl_60
                    refine w_go S rfl (op_indexAddr_arr S rfl ty26 rfl rfl rfl R_64 rfl ey_66 ?_)
                    clear S; intro a S
                    refine w_go S rfl (op_load (t := (.int .u8)) (x := y_66) S rfl ty5 rfl rfl rfl (RepAt.ix R_64 ey_66) ?_)
                    clear S; intro a v_67 R_68 S
                    obtain ⟨rfl, GR_68⟩ := RepV.int R_68
                    obtain ⟨y_69, ey_69, hl_60⟩ := bindS hl_60
                    refine w_go S rfl (op_indexAddr_own S rfl ty23 rfl rfl rfl O_50 rfl ey_69 ?_)
                    clear S; intro a g_70 H_72 R_71 S
                    refine w_go S rfl (op_store_own (t' := (.int .u8)) S rfl rfl ty5 rfl rfl rfl O_50 H_72 0 rfl (idx_some ey_69).2.1 Ln.whole ((RepV.mkInt GR_68) : RepV (.int .u8) w_61 (Kx K w.heap.size [v_49.ownBlock, v_12.ownBlock]) _ y_66) ?_)
                    intro w_73 hw_74 hm_76 O_75
                    replace R0 := R0.wrote hw_74 hm_76
                    replace R1 := R1.wrote hw_74 hm_76
                    replace O_13 := O_13.wrote hw_74 hm_76 (fun e_ => (W.neq (p := 0) (q := 1) (by decide) rfl rfl).elim (fun h_ => absurd (Eq.trans (Eq.symm h_) H_72) (fun k_ => nomatch k_)) (fun h_ => h_ (Eq.trans H_72 e_.symm)))
                    replace W := W.wrote hw_74 hm_76
                    replace O_75 : Ow (.int .u8) 5 w_73 w.heap.size (Kx K w.heap.size [v_49.ownBlock, v_12.ownBlock]) v_49 (c_48.set c_46.toNat y_66) (some m_41.2) := O_75
                    refine wpList_nil ?_
                    refine blk_n ?_
                    refine then_n ?_
                    replace S := S.sub (l' := [(10, .int .i64 c_46), (9, v_49), (8, .int .i64 x_40), (7, .int .i64 c_9), (6, v_12), (5, .string (strOfNums c_14)), (0, v0), (1, v1)]) (by exact ⟨rfl, rfl, rfl, rfl, rfl, rfl, rfl, rfl, trivial⟩)
                    refine wp_region_lit ?_
                    refine wl_pure (l' := [(47, .int .i64 c_46), (10, .int .i64 c_46), (9, v_49), (8, .int .i64 x_40), (7, .int .i64 c_9), (6, v_12), (5, .string (strOfNums c_14)), (0, v0), (1, v1)]) S tys tys_ok 1 (by kernel_rfl) ?_
                    clear S; intro a S
                    obtain ⟨x_77, ex_77, hl_60⟩ := bindS hl_60
                    refine w_go S rfl (op_arith S .i64 (c_46 + 1) rfl (.inl rfl) rfl rfl rfl rfl ex_77 ?_)
                    clear S; intro a S
                    refine wl_pure (l' := [(10, .int .i64 x_77), (48, .int .i64 x_77), (47, .int .i64 c_46), (10, .int .i64 c_46), (9, v_49), (8, .int .i64 x_40), (7, .int .i64 c_9), (6, v_12), (5, .string (strOfNums c_14)), (0, v0), (1, v1)]) S tys tys_ok 1 (by kernel_rfl) ?_
                    clear S; intro a S
                    refine wpList_nil ?_
                    refine then_n ?_
                    exact ⟨x_77, (c_48.set c_46.toNat y_66), ⟨v_49, S.sub (by exact ⟨rfl, rfl, rfl, rfl, rfl, rfl, rfl, rfl, trivial⟩), W, (ckI_some ex_77).2.1, R0, R1, O_75, O_13, hl_60⟩⟩
                  · intro hc
                    rw [if_neg (Bool.eq_false_iff.1 hc)] at hl_60
                    refine wp_exit ?_
                    refine then_x ?_
                    refine then_x ?_
                    refine blk_hit ?_
                    refine then_n ?_
                    obtain rfl := Option.some.inj hl_60
                    exact ⟨v_49, S.sub (by exact ⟨rfl, rfl, rfl, rfl, rfl, rfl, rfl, trivial⟩), W, R0, R1, O_13, O_50⟩
            clear S W; rintro a w_78 ⟨v_57, S, W, R0, R1, O_13, O_58⟩
            refine then_n ?_
            refine wp_seq ?_
            refine wp_region_lit ?_
            refine wl_pure (l' := [(59, .int .u8 (IntKind.wrap .u8 x_40)), (58, .int .i64 x_40), (57, v_57), (0, v0), (1, v1), (5, .string (strOfNums c_14)), (6, v_12), (7, .int .i64 c_9), (8, .int .i64 x_40), (9, v_57)]) S tys tys_ok 3 (by kernel_rfl) ?_
            clear S; intro a S
            obtain ⟨y_79, ey_79, hl_28⟩ := bindS hl_28
            refine w_go S rfl (op_indexAddr_own S rfl ty23 rfl rfl rfl O_58 rfl ey_79 ?_)
            clear S; intro a g_80 H_82 R_81 S
            refine w_go S rfl (op_store_own (t' := (.int .u8)) S rfl rfl ty5 rfl rfl rfl O_58 H_82 0 rfl (idx_some ey_79).2.1 Ln.whole ((RepV.mkInt (inR_wrap _ _)) : RepV (.int .u8) w_78 (Kx K w.heap.size [v_57.ownBlock, v_12.ownBlock]) _ (IntKind.wrap .u8 x_40)) ?_)
            intro w_83 hw_84 hm_86 O_85
            replace R0 := R0.wrote hw_84 hm_86
            replace R1 := R1.wrote hw_84 hm_86
            replace O_13 := O_13.wrote hw_84 hm_86 (fun e_ => (W.neq (p := 0) (q := 1) (by decide) rfl rfl).elim (fun h_ => absurd (Eq.trans (Eq.symm h_) H_82) (fun k_ => nomatch k_)) (fun h_ => h_ (Eq.trans H_82 e_.symm)))
            replace W := W.wrote hw_84 hm_86
            replace O_85 : Ow (.int .u8) 5 w_83 w.heap.size (Kx K w.heap.size [v_57.ownBlock, v_12.ownBlock]) v_57 (y_56.set (0 : Int).toNat (IntKind.wrap .u8 x_40)) (some m_41.2) := O_85
            refine wpList_nil ?_
            refine then_n ?_
            replace S := S.sub (l' := [(0, v0), (1, v1), (5, .string (strOfNums c_14)), (6, v_12), (7, .int .i64 c_9), (9, v_57)]) (by exact ⟨rfl, rfl, rfl, rfl, rfl, rfl, trivial⟩)
            refine wp_seq ?_
            refine wp_region_lit ?_
            refine wl_pure (l' := [(62, v_57), (61, v_12), (0, v0), (1, v1), (5, .string (strOfNums c_14)), (6, v_12), (7, .int .i64 c_9), (9, v_57)]) S tys tys_ok 2 (by kernel_rfl) ?_
            clear S; intro a S
            refine w_go S rfl (op_str (K := _) S rfl ty23 ty9 rfl rfl rfl O_85.read ?_)
            clear S; intro a S
            refine w_go S rfl (op_buildSlice (K := K) (e := .str) (vs := [.string (strOfNums ((⟨(y_56.set (0 : Int).toNat (IntKind.wrap .u8 x_40)), some m_41.2⟩ : Sl Int).xs))]) (xs := [(⟨(y_56.set (0 : Int).toNat (IntKind.wrap .u8 x_40)), some m_41.2⟩ : Sl Int).xs]) S W rfl ty25 rfl rfl (by kernel_rfl) rfl rfl rfl rfl rfl ⟨(RepV.mkStr O_85.read.byt), trivial⟩ ?_)
            clear S; intro a w_90 v_87 hb_89 R_88 S
            replace R0 := R0.step hb_89
            replace R1 := R1.step hb_89
            replace O_13 := O_13.step hb_89
            replace O_85 := O_85.step hb_89
            replace W := W.step hb_89
            obtain ⟨l_91, el_91, hl_28⟩ := bindS hl_28
            refine w_go S rfl (op_append S W (E := 9) 1 rfl ty25 un25 by25 rfl rfl rfl rfl O_13 rfl R_88 el_91 ?_)
            clear S; intro a w_93 v_92 A_94 O_95 S
            replace R0 : RepV (.sl (.arr 2 (.int .u8))) w_93 (Kx K w.heap.size [v_57.ownBlock, v_92.ownBlock]) v0 x0 := R0.apd A_94 (i := 1) rfl
            replace R1 : RepV (.sl (.int .u8)) w_93 (Kx K w.heap.size [v_57.ownBlock, v_92.ownBlock]) v1 x1 := R1.apd A_94 (i := 1) rfl
            replace R_88 : RepV (.sl .str) w_93 (Kx K w.heap.size [v_57.ownBlock, v_92.ownBlock]) v_87 (⟨[(⟨(y_56.set (0 : Int).toNat (IntKind.wrap .u8 x_40)), some m_41.2⟩ : Sl Int).xs], some 1⟩ : Sl (List Int)) := R_88.apd A_94 (i := 1) rfl
            replace O_85 : Ow (.int .u8) 5 w_93 w.heap.size (Kx K w.heap.size [v_57.ownBlock, v_92.ownBlock]) v_57 (y_56.set (0 : Int).toNat (IntKind.wrap .u8 x_40)) (some m_41.2) := O_85.apd W A_94 (i := 1) rfl (j := 0) rfl (by decide)
            replace W : Wd w w_93 [v_57.ownBlock, v_92.ownBlock] := W.apd A_94 (i := 1) rfl
            replace O_95 : Ow .str 9 w_93 w.heap.size (Kx K w.heap.size [v_57.ownBlock, v_92.ownBlock]) v_92 l_91 (capA .none l_91.length) := O_95
            refine wl_pure (l' := [(6, v_92), (65, v_92), (64, v_87), (63, .string (strOfNums ((⟨(y_56.set (0 : Int).toNat (IntKind.wrap .u8 x_40)), some m_41.2⟩ : Sl Int).xs))), (62, v_57), (61, v_12), (0, v0), (1, v1), (5, .string (strOfNums c_14)), (6, v_12), (7, .int .i64 c_9), (9, v_57)]) S tys tys_ok 1 (by kernel_rfl) ?_
            clear S; intro a S
            refine wpList_nil ?_
            refine then_n ?_
            replace S := S.sub (l' := [(6, v_92), (0, v0), (1, v1), (5, .string (strOfNums c_14)), (7, .int .i64 c_9), (9, v_57)]) (by exact ⟨rfl, rfl, rfl, rfl, rfl, rfl, trivial⟩)
            refine wp_region_lit ?_
            refine wl_pure (l' := [(67, v_57), (66, .string (strOfNums c_14)), (6, v_92), (0, v0), (1, v1), (5, .string (strOfNums c_14)), (7, .int .i64 c_9), (9, v_57)]) S tys tys_ok 2 (by kernel_rfl) ?_
            clear S; intro a S
            refine w_go S rfl (op_str (K := _) S rfl ty23 ty9 rfl rfl rfl O_85.read ?_)
            clear S; intro a S
            obtain ⟨s_96, es_96, hl_28⟩ := bindS hl_28
            refine w_go S rfl (op_cat S rfl rfl rfl rfl rfl es_96 ?_)
            clear S; intro a S
            refine wl_pure (l' := [(5, .string (strOfNums s_96)), (69, .string (strOfNums s_96)), (68, .string (strOfNums ((⟨(y_56.set (0 : Int).toNat (IntKind.wrap .u8 x_40)), some m_41.2⟩ : Sl Int).xs))), (67, v_57), (66, .string (strOfNums c_14)), (6, v_92), (0, v0), (1, v1), (5, .string (strOfNums c_14)), (7, .int .i64 c_9), (9, v_57)]) S tys tys_ok 1 (by kernel_rfl) ?_
            clear S; intro a S
            refine wpList_nil ?_
            refine blk_n ?_
            refine then_n ?_
            replace S := S.sub (l' := [(5, .string (strOfNums s_96)), (6, v_92), (0, v0), (1, v1), (7, .int .i64 c_9)]) (by exact ⟨rfl, rfl, rfl, rfl, rfl, trivial⟩)
            refine wp_region_lit ?_
            refine wl_pure (l' := [(32, .int .i64 c_9), (5, .string (strOfNums s_96)), (6, v_92), (0, v0), (1, v1), (7, .int .i64 c_9)]) S tys tys_ok 1 (by kernel_rfl) ?_
            clear S; intro a S
            obtain ⟨x_97, ex_97, hl_28⟩ := bindS hl_28
            refine w_go S rfl (op_arith S .i64 (c_9 + 1) rfl (.inl rfl) rfl rfl rfl rfl ex_97 ?_)
            clear S; intro a S
            refine wl_pure (l' := [(7, .int .i64 x_97), (33, .int .i64 x_97), (32, .int .i64 c_9), (5, .string (strOfNums s_96)), (6, v_92), (0, v0), (1, v1), (7, .int .i64 c_9)]) S tys tys_ok 1 (by kernel_rfl) ?_
            clear S; intro a S
            refine wpList_nil ?_
            refine then_n ?_
            exact ⟨x_97, l_91, s_96, ⟨v_92, S.sub (by exact ⟨rfl, rfl, rfl, rfl, rfl, trivial⟩), (W.drop 1), (ckI_some ex_97).2.1, (catS_ok G_15 O_85.read.byt es_96), (R0.drop 1), (R1.drop 1), (O_95.drop 1).forget, hl_28⟩⟩
          · intro hc
            rw [if_neg (Bool.eq_false_iff.1 hc)] at hl_28
            refine wp_exit ?_
            refine then_x ?_
            refine then_x ?_
            refine blk_hit ?_
            refine then_n ?_
            obtain rfl := Option.some.inj hl_28
            exact ⟨v_12, S.sub (by exact ⟨rfl, rfl, rfl, trivial⟩), W, G_15, R1, O_13⟩
    clear S W; rintro a w_98 ⟨v_25, S, W, G_24, R1, O_26⟩
    refine then_n ?_
    refine wp_seq ?_
    refine wp_region_lit ?_
    refine wl_pure (l' := [(71, .string (strOfNums y_23.1)), (1, v1), (5, .string (strOfNums y_23.1)), (6, v_25)]) S tys tys_ok 1 (by kernel_rfl) ?_
    clear S; intro a S
    refine w_go S rfl (op_bytes (K := K) S W rfl ty9 ty23 rfl rfl rfl (G_24).1 (G_24).2 ?_)
    clear S; intro a w_102 v_100 hb_101 R_99 S
    replace R1 := R1.step hb_101
    replace O_26 := O_26.step hb_101
    replace W := W.step hb_101
    obtain ⟨t_103, et_103, h⟩ := bindS h
    refine w_go S rfl (op_call (vs := [v_100]) S rfl cb12 rfl rfl rfl (c12 (Kx K w.heap.size [v_25.ownBlock]) n w_102 (⟨y_23.1, .none⟩ : Sl Int) _ R_99 et_103) ?_)
    rintro _ w_109 ⟨v_104, v_105, rfl, R_106, R_107, hb_108⟩; refine ⟨_, rfl, ?_⟩
    replace R_106 := RepV.back R_106 W
    replace R_107 := RepV.back R_107 W
    clear S; intro a S
    replace R1 := R1.step hb_108
    replace R_99 := R_99.step hb_108
    replace O_26 := O_26.step hb_108
    replace W := W.step hb_108
    obtain ⟨rfl, GR_107⟩ := RepV.int R_107
    refine wl_pure (l' := [(12, .int .i64 t_103.2), (11, v_104), (75, .int .i64 t_103.2), (74, v_104), (70, .tuple #[v_104, .int .i64 t_103.2]), (73, .tuple #[v_104, .int .i64 t_103.2]), (72, v_100), (71, .string (strOfNums y_23.1)), (1, v1), (5, .string (strOfNums y_23.1)), (6, v_25)]) S tys tys_ok 5 (by kernel_rfl) ?_
    clear S; intro a S
    refine wpList_nil ?_
    refine then_n ?_
    replace S := S.sub (l' := [(12, .int .i64 t_103.2), (11, v_104), (1, v1), (5, .string (strOfNums y_23.1)), (6, v_25)]) (by exact ⟨rfl, rfl, rfl, rfl, rfl, trivial⟩)
    refine wp_seq ?_
    refine wp_seq ?_
    refine wp_region_lit ?_
    refine wl_pure (l' := [(76, .string (strOfNums y_23.1)), (12, .int .i64 t_103.2), (11, v_104), (1, v1), (5, .string (strOfNums y_23.1)), (6, v_25)]) S tys tys_ok 1 (by kernel_rfl) ?_
    clear S; intro a S
    refine w_go S rfl (op_lenS S rfl ty9 rfl rfl rfl ?_)
    clear S; intro a S
    refine wl_pure (l' := [(78, .bool (decide ((lenS y_23.1) > 4096))), (77, .int .i64 (lenS y_23.1)), (76, .string (strOfNums y_23.1)), (12, .int .i64 t_103.2), (11, v_104), (1, v1), (5, .string (strOfNums y_23.1)), (6, v_25)]) S tys tys_ok 1 (by kernel_rfl) ?_
    clear S; intro a S
    refine wpList_nil ?_
    refine then_n ?_
    replace S := S.sub (l' := [(78, .bool (decide ((lenS y_23.1) > 4096))), (12, .int .i64 t_103.2), (11, v_104), (1, v1), (6, v_25)]) (by exact ⟨rfl, rfl, rfl, rfl, rfl, trivial⟩)
    obtain ⟨j_110, ej_110, h⟩ := bindS h
    refine wp_cut_ (fun a_ w_ => ∃ s_111 : Unit, j_110 = .inl s_111 ∧ (St 246 a_ [(11, v_104), (1, v1), (6, v_25)] ∧ Wd w w_ [v_25.ownBlock] ∧ RepV (.sl (.sl (.int .u8))) w_ (Kx K w.heap.size [v_25.ownBlock]) v_104 t_103.1 ∧ RepV (.sl (.int .u8)) w_ (Kx K w.heap.size [v_25.ownBlock]) v1 x1 ∧ Ow .str 9 w_ w.heap.size (Kx K w.heap.size [v_25.ownBlock]) v_25 y_23.2 .none)) ?_ ?_
    · refine wp_cond_split (S.eval (show ev _ _ = some (.bool (decide ((lenS y_23.1) > 4096))) from rfl)) ?_ ?_
      · intro hc
        rw [if_pos hc] at ej_110
        refine wp_seq ?_
        refine wp_region_lit ?_
        refine wl_pure (l' := [(81, .bool (t_103.2 != 3)), (80, .bool (t_103.2 != 3)), (79, .int .i64 t_103.2), (78, .bool (decide ((lenS y_23.1) > 4096))), (12, .int .i64 t_103.2), (11, v_104), (1, v1), (6, v_25)]) S tys tys_ok 3 (by kernel_rfl) ?_
        clear S; intro a S
        obtain ⟨q_112, eq_112, ej_110⟩ := bindS ej_110
        refine seg 4 (fun a_ w_ => w_109 = w_ ∧ St 246 a_ [(85, .bool q_112), (11, v_104), (1, v1), (6, v_25)]) ?_ ?_
        · by_cases hc : (t_103.2 != 3) = false
          · rw [if_pos hc] at eq_112; rw [hc] at S
            refine wl_pure (l' := [(82, v_104), (81, .bool false), (80, .bool false), (79, .int .i64 t_103.2), (78, .bool (decide ((lenS y_23.1) > 4096))), (12, .int .i64 t_103.2), (11, v_104), (1, v1), (6, v_25)]) S tys tys_ok 1 (by kernel_rfl) ?_
            clear S; intro a S
            refine w_go S rfl (op_len (K := _) S rfl ty27 rfl rfl rfl R_106 ?_)
            clear S; intro a G_113 S
            refine wl_pure (l' := [(85, .bool ((lenI t_103.1) != 0)), (84, .bool ((lenI t_103.1) != 0)), (83, .int .i64 (lenI t_103.1)), (82, v_104), (81, .bool false), (80, .bool false), (79, .int .i64 t_103.2), (78, .bool (decide ((lenS y_23.1) > 4096))), (12, .int .i64 t_103.2), (11, v_104), (1, v1), (6, v_25)]) S tys tys_ok 2 (by kernel_rfl) ?_
            clear S; intro a S
            obtain rfl := Option.some.inj eq_112
            exact ⟨rfl, S.sub (by exact ⟨rfl, rfl, rfl, rfl, trivial⟩)⟩
          · rw [if_neg hc] at eq_112; rw [show (t_103.2 != 3) = true from (by simpa using hc)] at S
            refine wl_pure (l' := [(85, .bool true), (84, undef), (83, undef), (82, undef), (81, .bool true), (80, .bool true), (79, .int .i64 t_103.2), (78, .bool (decide ((lenS y_23.1) > 4096))), (12, .int .i64 t_103.2), (11, v_104), (1, v1), (6, v_25)]) S tys tys_ok 4 (by kernel_rfl) ?_
            clear S; intro a S
            obtain rfl := Option.some.inj eq_112
            exact ⟨rfl, S.sub (by exact ⟨rfl, rfl, rfl, rfl, trivial⟩)⟩
        clear S eq_112; rintro a _ ⟨rfl, S⟩
        refine wpList_nil ?_
        refine then_n ?_
        refine wp_cond_split (S.eval (show ev _ _ = some (.bool q_112) from rfl)) ?_ ?_
        · intro hc
          rw [if_pos hc] at ej_110
          refine wp_seq ?_
          refine wp_region_lit ?_
          refine wl_pure (l' := [(4, .bool false), (85, .bool q_112), (11, v_104), (1, v1), (6, v_25)]) S tys tys_ok 1 (by kernel_rfl) ?_
          clear S; intro a S
          refine wpList_nil ?_
          refine then_n ?_
          replace S := S.sub (l' := [(4, .bool false)]) (by exact ⟨rfl, trivial⟩)
          refine wp_ret ?_
          refine then_r ?_
          refine then_r ?_
          obtain rfl := Option.some.inj ej_110
          obtain rfl := lr_inr h
          exact b_ret1 S rfl rfl ⟨_, rfl, RepV.mkBool, W.below⟩
        · intro hc
          rw [if_neg (Bool.eq_false_iff.1 hc)] at ej_110
          refine wp_skip ?_
          refine then_n ?_
          obtain rfl := Option.some.inj ej_110
          exact ⟨_, rfl, ⟨S.sub (by exact ⟨rfl, rfl, rfl, trivial⟩), W, R_106, R1, O_26⟩⟩
      · intro hc
        rw [if_neg (Bool.eq_false_iff.1 hc)] at ej_110
        refine wp_seq ?_
        refine wp_region_lit ?_
        refine wl_pure (l' := [(88, .bool (t_103.2 != 0)), (87, .bool (t_103.2 != 0)), (86, .int .i64 t_103.2), (78, .bool (decide ((lenS y_23.1) > 4096))), (12, .int .i64 t_103.2), (11, v_104), (1, v1), (6, v_25)]) S tys tys_ok 3 (by kernel_rfl) ?_
        clear S; intro a S
        obtain ⟨q_114, eq_114, ej_110⟩ := bindS ej_110
        refine seg 6 (fun a_ w_ => w_109 = w_ ∧ St 246 a_ [(94, .bool q_114), (11, v_104), (1, v1), (6, v_25)]) ?_ ?_
        · by_cases hc : (t_103.2 != 0) = false
          · rw [if_pos hc] at eq_114; rw [hc] at S
            refine wl_pure (l' := [(89, v_104), (88, .bool false), (87, .bool false), (86, .int .i64 t_103.2), (78, .bool (decide ((lenS y_23.1) > 4096))), (12, .int .i64 t_103.2), (11, v_104), (1, v1), (6, v_25)]) S tys tys_ok 1 (by kernel_rfl) ?_
            clear S; intro a S
            refine w_go S rfl (op_len (K := _) S rfl ty27 rfl rfl rfl R_106 ?_)
            clear S; intro a G_115 S
            refine wl_pure (l' := [(91, v_25), (90, .int .i64 (lenI t_103.1)), (89, v_104), (88, .bool false), (87, .bool false), (86, .int .i64 t_103.2), (78, .bool (decide ((lenS y_23.1) > 4096))), (12, .int .i64 t_103.2), (11, v_104), (1, v1), (6, v_25)]) S tys tys_ok 1 (by kernel_rfl) ?_
            clear S; intro a S
            refine w_go S rfl (op_len (K := _) S rfl ty25 rfl rfl rfl O_26.read ?_)
            clear S; intro a G_116 S
            refine wl_pure (l' := [(94, .bool ((lenI t_103.1) != (lenI (⟨y_23.2, .none⟩ : Sl (List Int))))), (93, .bool ((lenI t_103.1) != (lenI (⟨y_23.2, .none⟩ : Sl (List Int))))), (92, .int .i64 (lenI (⟨y_23.2, .none⟩ : Sl (List Int)))), (91, v_25), (90, .int .i64 (lenI t_103.1)), (89, v_104), (88, .bool false), (87, .bool false), (86, .int .i64 t_103.2), (78, .bool (decide ((lenS y_23.1) > 4096))), (12, .int .i64 t_103.2), (11, v_104), (1, v1), (6, v_25)]) S tys tys_ok 2 (by kernel_rfl) ?_
            clear S; intro a S
            obtain rfl := Option.some.inj eq_114
            exact ⟨rfl, S.sub (by exact ⟨rfl, rfl, rfl, rfl, trivial⟩)⟩
          · rw [if_neg hc] at eq_114; rw [show (t_103.2 != 0) = true from (by simpa using hc)] at S
            refine wl_pure (l' := [(94, .bool true), (93, undef), (92, undef), (91, undef), (90, undef), (89, undef), (88, .bool true), (87, .bool true), (86, .int .i64 t_103.2), (78, .bool (decide ((lenS y_23.1) > 4096))), (12, .int .i64 t_103.2), (11, v_104), (1, v1), (6, v_25)]) S tys tys_ok 6 (by kernel_rfl) ?_
            clear S; intro a S
            obtain rfl := Option.some.inj eq_114
            exact ⟨rfl, S.sub (by exact ⟨rfl, rfl, rfl, rfl, trivial⟩)⟩
        clear S eq_114; rintro a _ ⟨rfl, S⟩
        refine wl_pure (l' := [(95, .bool q_114), (94, .bool q_114), (11, v_104), (1, v1), (6, v_25)]) S tys tys_ok 1 (by kernel_rfl) ?_
        clear S; intro a S
        obtain ⟨q_117, eq_117, ej_110⟩ := bindS ej_110
        refine seg 6 (fun a_ w_ => w_109 = w_ ∧ St 246 a_ [(101, .bool q_117), (11, v_104), (1, v1), (6, v_25)]) ?_ ?_
        · by_cases hc : q_114 = false
          · rw [if_pos hc] at eq_117; rw [hc] at S
            refine wl_pure (l' := [(96, v_104), (95, .bool false), (94, .bool false), (11, v_104), (1, v1), (6, v_25)]) S tys tys_ok 1 (by kernel_rfl) ?_
            clear S; intro a S
            obtain ⟨x_119, ex_119, eq_117⟩ := bindS eq_117
            refine w_go S rfl (op_cap (K := _) S rfl ty27 rfl rfl rfl R_106 ex_119 ?_)
            clear S; intro a G_118 S
            refine wl_pure (l' := [(98, v_104), (97, .int .i64 x_119), (96, v_104), (95, .bool false), (94, .bool false), (11, v_104), (1, v1), (6, v_25)]) S tys tys_ok 1 (by kernel_rfl) ?_
            clear S; intro a S
            refine w_go S rfl (op_len (K := _) S rfl ty27 rfl rfl rfl R_106 ?_)
            clear S; intro a G_120 S
            refine wl_pure (l' := [(101, .bool (x_119 != (lenI t_103.1))), (100, .bool (x_119 != (lenI t_103.1))), (99, .int .i64 (lenI t_103.1)), (98, v_104), (97, .int .i64 x_119), (96, v_104), (95, .bool false), (94, .bool false), (11, v_104), (1, v1), (6, v_25)]) S tys tys_ok 2 (by kernel_rfl) ?_
            clear S; intro a S
            obtain rfl := Option.some.inj eq_117
            exact ⟨rfl, S.sub (by exact ⟨rfl, rfl, rfl, rfl, trivial⟩)⟩
          · rw [if_neg hc] at eq_117; rw [show q_114 = true from (by simpa using hc)] at S
            refine wl_pure (l' := [(101, .bool true), (100, undef), (99, undef), (98, undef), (97, undef), (96, undef), (95, .bool true), (94, .bool true), (11, v_104), (1, v1), (6, v_25)]) S tys tys_ok 6 (by kernel_rfl) ?_
            clear S; intro a S
            obtain rfl := Option.some.inj eq_117
            exact ⟨rfl, S.sub (by exact ⟨rfl, rfl, rfl, rfl, trivial⟩)⟩
        clear S eq_117; rintro a _ ⟨rfl, S⟩
        refine wpList_nil ?_
        refine then_n ?_
        refine wp_cond_split (S.eval (show ev _ _ = some (.bool q_117) from rfl)) ?_ ?_
        · intro hc
          rw [if_pos hc] at ej_110
          refine wp_seq ?_
          refine wp_region_lit ?_
          refine wl_pure (l' := [(4, .bool false), (101, .bool q_117), (11, v_104), (1, v1), (6, v_25)]) S tys tys_ok 1 (by kernel_rfl) ?_
          clear S; intro a S
          refine wpList_nil ?_
          refine then_n ?_
          replace S := S.sub (l' := [(4, .bool false)]) (by exact ⟨rfl, trivial⟩)
          refine wp_ret ?_
          refine then_r ?_
          refine then_r ?_
          obtain rfl := Option.some.inj ej_110
          obtain rfl := lr_inr h
          exact b_ret1 S rfl rfl ⟨_, rfl, RepV.mkBool, W.below⟩
        · intro hc
          rw [if_neg (Bool.eq_false_iff.1 hc)] at ej_110
          refine wp_skip ?_
          refine then_n ?_
          obtain rfl := Option.some.inj ej_110
          exact ⟨_, rfl, ⟨S.sub (by exact ⟨rfl, rfl, rfl, trivial⟩), W, R_106, R1, O_26⟩⟩
    clear S W; rintro a w_121 ⟨s_111, rfl, S, W, R_106, R1, O_26⟩
    replace h := lr_inl h; try dsimp only at h
    refine then_n ?_
    refine wp_seq ?_
    refine wp_seq ?_
    refine wp_region_lit ?_
    refine wl_pure (l' := [(13, .int .i64 0), (11, v_104), (1, v1), (6, v_25)]) S tys tys_ok 1 (by kernel_rfl) ?_
    clear S; intro a S
    refine wpList_nil ?_
    refine then_n ?_
    obtain ⟨y_126, ey_126, h⟩ := bindS h
    refine wp_cut_ (fun a_ w_ => ∃ s_127 : Unit, y_126 = .inl s_127 ∧ (St 246 a_ [(1, v1)] ∧ Wd w w_ [v_25.ownBlock] ∧ RepV (.sl (.int .u8)) w_ (Kx K w.heap.size [v_25.ownBlock]) v1 x1)) ?_ ?_
    · refine wp_block ?_
      refine wp_loop_n (fun m_ a_ w_ => ∃ (c_122 : Int) , St 246 a_ [(13, .int .i64 c_122), (11, v_104), (1, v1), (6, v_25)] ∧ Wd w w_ [v_25.ownBlock] ∧ InR .i64 c_122 ∧ RepV (.sl (.sl (.int .u8))) w_ (Kx K w.heap.size [v_25.ownBlock]) v_104 t_103.1 ∧ RepV (.sl (.int .u8)) w_ (Kx K w.heap.size [v_25.ownBlock]) v1 x1 ∧ Ow .str 9 w_ w.heap.size (Kx K w.heap.size [v_25.ownBlock]) v_25 y_23.2 .none ∧ p3_l3 n y_23 t_103 m_ c_122 = some y_126) n ?_ ?_
      · skip
        exact ⟨0, ⟨S.sub (by exact ⟨rfl, rfl, rfl, rfl, trivial⟩), W, (by decide), R_106, R1, O_26, ey_126⟩⟩
      · clear S W; rintro m_128 a w_130 ⟨c_122, S, W, G_123, R_106, R1, O_26, hl_129⟩
        cases m_128 with
        | zero => exact absurd hl_129 (by simp [p3_l3])
        | succ m_128 =>
          refine ⟨m_128, rfl, ?_⟩
          rw [p3_l3] at hl_129
          refine wp_seq ?_
          refine wp_seq ?_
          refine wp_region_lit ?_
          refine wl_pure (l' := [(103, v_104), (102, .int .i64 c_122), (13, .int .i64 c_122), (11, v_104), (1, v1), (6, v_25)]) S tys tys_ok 2 (by kernel_rfl) ?_
          clear S; intro a S
          refine w_go S rfl (op_len (K := _) S rfl ty27 rfl rfl rfl R_106 ?_)
          clear S; intro a G_131 S
          refine wl_pure (l' := [(105, .bool (decide (c_122 < (lenI t_103.1)))), (104, .int .i64 (lenI t_103.1)), (103, v_104), (102, .int .i64 c_122), (13, .int .i64 c_122), (11, v_104), (1, v1), (6, v_25)]) S tys tys_ok 1 (by kernel_rfl) ?_
          clear S; intro a S
          refine wpList_nil ?_
          refine then_n ?_
          replace S := S.sub (l' := [(105, .bool (decide (c_122 < (lenI t_103.1)))), (13, .int .i64 c_122), (11, v_104), (1, v1), (6, v_25)]) (by exact ⟨rfl, rfl, rfl, rfl, rfl, trivial⟩)
          refine wp_cond_split (S.eval (show ev _ _ = some (.bool (decide (c_122 < (lenI t_103.1)))) from rfl)) ?_ ?_
          · intro hc
            rw [if_pos hc] at hl_129
            refine wp_skip ?_
            refine then_n ?_
            replace S := S.sub (l' := [(13, .int .i64 c_122), (11, v_104), (1, v1), (6, v_25)]) (by exact ⟨rfl, rfl, rfl, rfl, trivial⟩)
            refine wp_seq ?_
            refine wp_block ?_
            refine wp_seq ?_
            obtain ⟨y_132, ey_132, hl_129⟩ := bindS hl_129
            obtain ⟨y_138, ey_138, hl_129⟩ := bindS hl_129
            obtain ⟨q_144, eq_144, hl_129⟩ := bindS hl_129
            obtain ⟨y_146, x_153, y_154, HG_145⟩ : ∃ (y_146 : Sl (Int)) (x_153 : Int) (y_154 : Sl (Int)) , ((!(decide (y_132.xs = y_138))) = false → (idx t_103.1.xs c_122) = some y_146 ∧ (capO y_146) = some x_153 ∧ (idx t_103.1.xs c_122) = some y_154 ∧ (x_153 != (lenI y_154)) = q_144) ∧ (¬ (!(decide (y_132.xs = y_138))) = false → true = q_144) := by
              by_cases hc : (!(decide (y_132.xs = y_138))) = false
              · rw [if_pos hc] at eq_144
                obtain ⟨y_146, ey_146, eq_144⟩ := bindS eq_144
                obtain ⟨x_153, ex_153, eq_144⟩ := bindS eq_144
                obtain ⟨y_154, ey_154, eq_144⟩ := bindS eq_144
                exact ⟨y_146, x_153, y_154, ⟨fun _ => ⟨ey_146, ex_153, ey_154, Option.some.inj eq_144⟩, fun k_ => absurd hc k_⟩⟩
              · rw [if_neg hc] at eq_144
                exact ⟨default, default, default, ⟨fun k_ => absurd k_ hc, fun _ => Option.some.inj eq_144⟩⟩
            have hR : Rel (Kx K w.heap.size [v_25.ownBlock]) Bl := Bl.rel _
            refine wp_region_all hR [isRep (.sl (.sl (.int .u8))) (Kx K w.heap.size [v_25.ownBlock]) t_103.1, isI .i64 c_122, isEl (.sl (.int .u8)) (Kx K w.heap.size [v_25.ownBlock]) y_132, isRep (.sl (.int .u8)) (Kx K w.heap.size [v_25.ownBlock]) y_132, isS y_132.xs, eqv (v_25), isI .i64 c_122, isEo .str (Kx K w.heap.size [v_25.ownBlock]) y_138, isS y_138, eqv (.bool (!(decide (y_132.xs = y_138)))), eqv (.bool (!(decide (y_132.xs = y_138)))), cndF (!(decide (y_132.xs = y_138))) false (isRep (.sl (.sl (.int .u8))) (Kx K w.heap.size [v_25.ownBlock]) t_103.1), cndF (!(decide (y_132.xs = y_138))) false (isI .i64 c_122), cndF (!(decide (y_132.xs = y_138))) false (isEl (.sl (.int .u8)) (Kx K w.heap.size [v_25.ownBlock]) y_146), cndF (!(decide (y_132.xs = y_138))) false (isRep (.sl (.int .u8)) (Kx K w.heap.size [v_25.ownBlock]) y_146), cndF (!(decide (y_132.xs = y_138))) false (isI .i64 x_153), cndF (!(decide (y_132.xs = y_138))) false (isRep (.sl (.sl (.int .u8))) (Kx K w.heap.size [v_25.ownBlock]) t_103.1), cndF (!(decide (y_132.xs = y_138))) false (isI .i64 c_122), cndF (!(decide (y_132.xs = y_138))) false (isEl (.sl (.int .u8)) (Kx K w.heap.size [v_25.ownBlock]) y_154), cndF (!(decide (y_132.xs = y_138))) false (isRep (.sl (.int .u8)) (Kx K w.heap.size [v_25.ownBlock]) y_154), cndF (!(decide (y_132.xs = y_138))) false (isI .i64 (lenI y_154)), cndF (!(decide (y_132.xs = y_138))) false (eqv (.bool (x_153 != (lenI y_154)))), eqv (.bool q_144)] [[], [], [(0, 108), (1, 109)], [(2, 110)], [(3, 111)], [], [], [(5, 113), (6, 114)], [(7, 115)], [(4, 112), (8, 116)], [(9, 117)], [(10, 118)], [(10, 118)], [(11, 119), (12, 120), (10, 118)], [(13, 121), (10, 118)], [(14, 122), (10, 118)], [(10, 118)], [(10, 118)], [(16, 124), (17, 125), (10, 118)], [(18, 126), (10, 118)], [(19, 127), (10, 118)], [(15, 123), (20, 128), (10, 118)], [(10, 118), (21, 129)]] (by kernel_rfl) (by rw [S.size]; kernel_rfl) (by kernel_rfl) (by kernel_rfl) rfl ⟨(stab_rep hR), stab_I, (stab_el hR), (stab_rep hR), stab_S, (stab_eqv _), stab_I, stab_eo, stab_S, (stab_eqv _), (stab_eqv _), (stab_cnd (stab_rep hR)), (stab_cnd stab_I), (stab_cnd (stab_el hR)), (stab_cnd (stab_rep hR)), (stab_cnd stab_I), (stab_cnd (stab_rep hR)), (stab_cnd stab_I), (stab_cnd (stab_el hR)), (stab_cnd (stab_rep hR)), (stab_cnd stab_I), (stab_cnd (stab_eqv _)), (stab_eqv _), trivial⟩ ?_ ?_
            ·
              refine RunAll.cons (isRep (.sl (.sl (.int .u8))) (Kx K w.heap.size [v_25.ownBlock]) t_103.1) [] rfl rfl ?_ ?_
              · intro W_ hW
                have S1 := S
                refine fill_nil S1 ?_; clear S1; intro a_ S1
                replace R_106 := R_106.step hW
                have S0 := S.defers; replace S := S1; clear S1
                refine wl_pure (l' := [(108, v_104), (13, .int .i64 c_122), (11, v_104), (1, v1), (6, v_25)]) S tys tys_ok 1 (by kernel_rfl) ?_; clear S; intro a S
                refine wpList_nil ?_
                exact RPost.mk_ S rfl S0 R_106 (Below.refl _ _)
              refine RunAll.cons (isI .i64 c_122) [] rfl rfl ?_ ?_
              · intro W_ hW
                have S1 := S
                refine fill_nil S1 ?_; clear S1; intro a_ S1
                have S0 := S.defers; replace S := S1; clear S1
                refine wl_pure (l' := [(109, .int .i64 c_122), (13, .int .i64 c_122), (11, v_104), (1, v1), (6, v_25)]) S tys tys_ok 1 (by kernel_rfl) ?_; clear S; intro a S
                refine wpList_nil ?_
                exact RPost.mk_ S rfl S0 ⟨rfl, G_123⟩ (Below.refl _ _)
              refine RunAll.cons (isEl (.sl (.int .u8)) (Kx K w.heap.size [v_25.ownBlock]) y_132) [(isRep (.sl (.sl (.int .u8))) (Kx K w.heap.size [v_25.ownBlock]) t_103.1, 108), (isI .i64 c_122, 109)] rfl rfl ?_ ?_
              · intro W_ hW
                have S1 := S
                intro v_162 hF_161; replace hF_161 : RepV _ _ _ _ _ := hF_161
                replace S1 := S1.put (by decide : 108 < 246) (v_162)
                rintro _ ⟨rfl, hF_163⟩
                replace S1 := S1.put (by decide : 109 < 246) (.int .i64 c_122)
                refine fill_nil S1 ?_; clear S1; intro a_ S1
                replace W := W.step hW
                have S0 := S.defers; replace S := S1; clear S1
                refine w_go S rfl (op_indexAddr S rfl ty27 rfl rfl rfl hF_161 rfl ey_132 ?_)
                clear S; intro a p_165 R_166 H_167 S
                refine wpList_nil ?_
                exact RPost.mk_ S rfl S0 ⟨_, rfl, R_166, H_167⟩ (Below.refl _ _)
              refine RunAll.cons (isRep (.sl (.int .u8)) (Kx K w.heap.size [v_25.ownBlock]) y_132) [(isEl (.sl (.int .u8)) (Kx K w.heap.size [v_25.ownBlock]) y_132, 110)] rfl rfl ?_ ?_
              · intro W_ hW
                have S1 := S
                rintro _ ⟨p_170, rfl, R_171, H_172⟩
                replace S1 := S1.put (by decide : 110 < 246) (.pointer (some p_170))
                refine fill_nil S1 ?_; clear S1; intro a_ S1
                have S0 := S.defers; replace S := S1; clear S1
                refine w_go S rfl (op_load (t := (.sl (.int .u8))) (x := y_132) S rfl ty23 rfl rfl rfl R_171 ?_)
                clear S; intro a v_173 R_174 S
                refine wpList_nil ?_
                exact RPost.mk_ S rfl S0 R_174 (Below.refl _ _)
              refine RunAll.cons (isS y_132.xs) [(isRep (.sl (.int .u8)) (Kx K w.heap.size [v_25.ownBlock]) y_132, 111)] rfl rfl ?_ ?_
              · intro W_ hW
                have S1 := S
                intro v_176 hF_175; replace hF_175 : RepV _ _ _ _ _ := hF_175
                replace S1 := S1.put (by decide : 111 < 246) (v_176)
                refine fill_nil S1 ?_; clear S1; intro a_ S1
                replace W := W.step hW
                have S0 := S.defers; replace S := S1; clear S1
                refine w_go S rfl (op_str (K := _) S rfl ty23 ty9 rfl rfl rfl hF_175 ?_)
                clear S; intro a S
                refine wpList_nil ?_
                exact RPost.mk_ S rfl S0 ⟨rfl, hF_175.byt⟩ (Below.refl _ _)
              refine RunAll.cons (eqv (v_25)) [] rfl rfl ?_ ?_
              · intro W_ hW
                have S1 := S
                refine fill_nil S1 ?_; clear S1; intro a_ S1
                replace O_26 := O_26.step hW
                have S0 := S.defers; replace S := S1; clear S1
                refine wl_pure (l' := [(113, v_25), (13, .int .i64 c_122), (11, v_104), (1, v1), (6, v_25)]) S tys tys_ok 1 (by kernel_rfl) ?_; clear S; intro a S
                refine wpList_nil ?_
                exact RPost.mk_ S rfl S0 rfl (Below.refl _ _)
              refine RunAll.cons (isI .i64 c_122) [] rfl rfl ?_ ?_
              · intro W_ hW
                have S1 := S
                refine fill_nil S1 ?_; clear S1; intro a_ S1
                have S0 := S.defers; replace S := S1; clear S1
                refine wl_pure (l' := [(114, .int .i64 c_122), (13, .int .i64 c_122), (11, v_104), (1, v1), (6, v_25)]) S tys tys_ok 1 (by kernel_rfl) ?_; clear S; intro a S
                refine wpList_nil ?_
                exact RPost.mk_ S rfl S0 ⟨rfl, G_123⟩ (Below.refl _ _)
              refine RunAll.cons (isEo .str (Kx K w.heap.size [v_25.ownBlock]) y_138) [(eqv (v_25), 113), (isI .i64 c_122, 114)] rfl rfl ?_ ?_
              · intro W_ hW
                have S1 := S
                intro v_178 hF_177; obtain rfl : v_25 = v_178 := Eq.symm hF_177
                replace S1 := S1.put (by decide : 113 < 246) (v_25)
                rintro _ ⟨rfl, hF_179⟩
                replace S1 := S1.put (by decide : 114 < 246) (.int .i64 c_122)
                refine fill_nil S1 ?_; clear S1; intro a_ S1
                replace O_26 := O_26.step hW
                replace W := W.step hW
                have S0 := S.defers; replace S := S1; clear S1
                refine w_go S rfl (op_indexAddr_own S rfl ty25 rfl rfl rfl O_26 rfl ey_138 ?_)
                clear S; intro a g_181 H_183 R_182 S
                refine wpList_nil ?_
                exact RPost.mk_ S rfl S0 ⟨_, rfl, R_182, W.ownlt (o := v_25.ownBlock) (List.mem_of_getElem? (i := 0) rfl) H_183⟩ (Below.refl _ _)
              refine RunAll.cons (isS y_138) [(isEo .str (Kx K w.heap.size [v_25.ownBlock]) y_138, 115)] rfl rfl ?_ ?_
              · intro W_ hW
                have S1 := S
                rintro _ ⟨p_186, rfl, R_187, H_188⟩
                replace S1 := S1.put (by decide : 115 < 246) (.pointer (some p_186))
                refine fill_nil S1 ?_; clear S1; intro a_ S1
                have S0 := S.defers; replace S := S1; clear S1
                refine w_go S rfl (op_load (t := .str) (x := y_138) S rfl ty9 rfl rfl rfl R_187 ?_)
                clear S; intro a v_189 R_190 S
                obtain ⟨rfl, GR_190⟩ := RepV.str R_190
                refine wpList_nil ?_
                exact RPost.mk_ S rfl S0 ⟨rfl, GR_190⟩ (Below.refl _ _)
              refine RunAll.cons (eqv (.bool (!(decide (y_132.xs = y_138))))) [(isS y_132.xs, 112), (isS y_138, 116)] rfl rfl ?_ ?_
              · intro W_ hW
                have S1 := S
                rintro _ ⟨rfl, hF_191⟩
                replace S1 := S1.put (by decide : 112 < 246) (.string (strOfNums y_132.xs))
                rintro _ ⟨rfl, hF_193⟩
                replace S1 := S1.put (by decide : 116 < 246) (.string (strOfNums y_138))
                refine fill_nil S1 ?_; clear S1; intro a_ S1
                have S0 := S.defers; replace S := S1; clear S1
                refine w_go S rfl (op_strne S rfl rfl rfl rfl rfl (hF_191).1 (hF_193).1 ?_)
                clear S; intro a S
                refine wpList_nil ?_
                exact RPost.mk_ S rfl S0 rfl (Below.refl _ _)
              refine RunAll.cons (eqv (.bool (!(decide (y_132.xs = y_138))))) [(eqv (.bool (!(decide (y_132.xs = y_138)))), 117)] rfl rfl ?_ ?_
              · intro W_ hW
                have S1 := S
                intro v_196 hF_195; obtain rfl : .bool (!(decide (y_132.xs = y_138))) = v_196 := Eq.symm hF_195
                replace S1 := S1.put (by decide : 117 < 246) (.bool (!(decide (y_132.xs = y_138))))
                refine fill_nil S1 ?_; clear S1; intro a_ S1
                have S0 := S.defers; replace S := S1; clear S1
                refine wl_pure (l' := [(118, .bool (!(decide (y_132.xs = y_138)))), (117, .bool (!(decide (y_132.xs = y_138)))), (13, .int .i64 c_122), (11, v_104), (1, v1), (6, v_25)]) S tys tys_ok 1 (by kernel_rfl) ?_; clear S; intro a S
                refine wpList_nil ?_
                exact RPost.mk_ S rfl S0 rfl (Below.refl _ _)
              refine RunAll.cons (cndF (!(decide (y_132.xs = y_138))) false (isRep (.sl (.sl (.int .u8))) (Kx K w.heap.size [v_25.ownBlock]) t_103.1)) [(eqv (.bool (!(decide (y_132.xs = y_138)))), 118)] rfl rfl ?_ ?_
              · intro W_ hW
                by_cases hc0 : (!(decide (y_132.xs = y_138))) = false
                · have hl0 : (!(decide (y_132.xs = y_138))) = false := hc0
                  have S1 := S
                  intro v_198 hF_197; obtain rfl : .bool (!(decide (y_132.xs = y_138))) = v_198 := Eq.symm hF_197
                  replace S1 := S1.put (by decide : 118 < 246) (.bool (!(decide (y_132.xs = y_138))))
                  refine fill_nil S1 ?_; clear S1; intro a_ S1
                  replace R_106 := R_106.step hW
                  rw [show (!(decide (y_132.xs = y_138))) = false from hl0] at S1
                  have S0 := S.defers; replace S := S1; clear S1
                  refine wl_pure (l' := [(119, v_104), (118, .bool false), (13, .int .i64 c_122), (11, v_104), (1, v1), (6, v_25)]) S tys tys_ok 1 (by kernel_rfl) ?_; clear S; intro a S
                  refine wpList_nil ?_
                  exact RPost.mk_ S rfl S0 ⟨fun _ => R_106, fun k_ => absurd hc0 k_⟩ (Below.refl _ _)
                · have hl0 : (!(decide (y_132.xs = y_138))) = true := (by simpa using hc0)
                  have S1 := S
                  intro v_200 hF_199; obtain rfl : .bool (!(decide (y_132.xs = y_138))) = v_200 := Eq.symm hF_199
                  replace S1 := S1.put (by decide : 118 < 246) (.bool (!(decide (y_132.xs = y_138))))
                  refine fill_nil S1 ?_; clear S1; intro a_ S1
                  rw [show (!(decide (y_132.xs = y_138))) = true from hl0] at S1
                  have S0 := S.defers; replace S := S1; clear S1
                  refine wl_pure (l' := [(119, undef), (118, .bool true), (13, .int .i64 c_122), (11, v_104), (1, v1), (6, v_25)]) S tys tys_ok 1 (by kernel_rfl) ?_; clear S; intro a S
                  refine wpList_nil ?_
                  exact RPost.mk_ S rfl S0 ⟨fun k_ => absurd k_ hc0, fun _ => rfl⟩ (Below.refl _ _)
              refine RunAll.cons (cndF (!(decide (y_132.xs = y_138))) false (isI .i64 c_122)) [(eqv (.bool (!(decide (y_132.xs = y_138)))), 118)] rfl rfl ?_ ?_
              · intro W_ hW
                by_cases hc0 : (!(decide (y_132.xs = y_138))) = false
                · have hl0 : (!(decide (y_132.xs = y_138))) = false := hc0
                  have S1 := S
                  intro v_202 hF_201; obtain rfl : .bool (!(decide (y_132.xs = y_138))) = v_202 := Eq.symm hF_201
                  replace S1 := S1.put (by decide : 118 < 246) (.bool (!(decide (y_132.xs = y_138))))
                  refine fill_nil S1 ?_; clear S1; intro a_ S1
                  rw [show (!(decide (y_132.xs = y_138))) = false from hl0] at S1
                  have S0 := S.defers; replace S := S1; clear S1
                  refine wl_pure (l' := [(120, .int .i64 c_122), (118, .bool false), (13, .int .i64 c_122), (11, v_104), (1, v1), (6, v_25)]) S tys tys_ok 1 (by kernel_rfl) ?_; clear S; intro a S
                  refine wpList_nil ?_
                  exact RPost.mk_ S rfl S0 ⟨fun _ => ⟨rfl, G_123⟩, fun k_ => absurd hc0 k_⟩ (Below.refl _ _)
                · have hl0 : (!(decide (y_132.xs = y_138))) = true := (by simpa using hc0)
                  have S1 := S
                  intro v_204 hF_203; obtain rfl : .bool (!(decide (y_132.xs = y_138))) = v_204 := Eq.symm hF_203
                  replace S1 := S1.put (by decide : 118 < 246) (.bool (!(decide (y_132.xs = y_138))))
                  refine fill_nil S1 ?_; clear S1; intro a_ S1
                  rw [show (!(decide (y_132.xs = y_138))) = true from hl0] at S1
                  have S0 := S.defers; replace S := S1; clear S1
                  refine wl_pure (l' := [(120, undef), (118, .bool true), (13, .int .i64 c_122), (11, v_104), (1, v1), (6, v_25)]) S tys tys_ok 1 (by kernel_rfl) ?_; clear S; intro a S
                  refine wpList_nil ?_
                  exact RPost.mk_ S rfl S0 ⟨fun k_ => absurd k_ hc0, fun _ => rfl⟩ (Below.refl _ _)
              refine RunAll.cons (cndF (!(decide (y_132.xs = y_138))) false (isEl (.sl (.int .u8)) (Kx K w.heap.size [v_25.ownBlock]) y_146)) [(cndF (!(decide (y_132.xs = y_138))) false (isRep (.sl (.sl (.int .u8))) (Kx K w.heap.size [v_25.ownBlock]) t_103.1), 119), (cndF (!(decide (y_132.xs = y_138))) false (isI .i64 c_122), 120), (eqv (.bool (!(decide (y_132.xs = y_138)))), 118)] rfl rfl ?_ ?_
              · intro W_ hW
                by_cases hc0 : (!(decide (y_132.xs = y_138))) = false
                · have hl0 : (!(decide (y_132.xs = y_138))) = false := hc0
                  have S1 := S
                  intro v_205 hF_206
                  replace hF_206 := cndF.pos hF_206 hc0
                  revert hF_206
                  revert v_205
                  intro v_208 hF_207; replace hF_207 : RepV _ _ _ _ _ := hF_207
                  replace S1 := S1.put (by decide : 119 < 246) (v_208)
                  intro v_209 hF_210
                  replace hF_210 := cndF.pos hF_210 hc0
                  revert hF_210
                  revert v_209
                  rintro _ ⟨rfl, hF_211⟩
                  replace S1 := S1.put (by decide : 120 < 246) (.int .i64 c_122)
                  intro v_214 hF_213; obtain rfl : .bool (!(decide (y_132.xs = y_138))) = v_214 := Eq.symm hF_213
                  replace S1 := S1.put (by decide : 118 < 246) (.bool (!(decide (y_132.xs = y_138))))
                  refine fill_nil S1 ?_; clear S1; intro a_ S1
                  replace W := W.step hW
                  rw [show (!(decide (y_132.xs = y_138))) = false from hl0] at S1
                  have S0 := S.defers; replace S := S1; clear S1
                  obtain ⟨ey_146, ex_153, ey_154, _⟩ := (HG_145).1 hc0
                  refine w_go S rfl (op_indexAddr S rfl ty27 rfl rfl rfl hF_207 rfl ey_146 ?_)
                  clear S; intro a p_215 R_216 H_217 S
                  refine wpList_nil ?_
                  exact RPost.mk_ S rfl S0 ⟨fun _ => ⟨_, rfl, R_216, H_217⟩, fun k_ => absurd hc0 k_⟩ (Below.refl _ _)
                · have hl0 : (!(decide (y_132.xs = y_138))) = true := (by simpa using hc0)
                  have S1 := S
                  intro v_218 hF_219
                  obtain rfl := cndF.neg hF_219 hc0
                  replace S1 := S1.put (by decide : 119 < 246) (undef)
                  intro v_220 hF_221
                  obtain rfl := cndF.neg hF_221 hc0
                  replace S1 := S1.put (by decide : 120 < 246) (undef)
                  intro v_223 hF_222; obtain rfl : .bool (!(decide (y_132.xs = y_138))) = v_223 := Eq.symm hF_222
                  replace S1 := S1.put (by decide : 118 < 246) (.bool (!(decide (y_132.xs = y_138))))
                  refine fill_nil S1 ?_; clear S1; intro a_ S1
                  rw [show (!(decide (y_132.xs = y_138))) = true from hl0] at S1
                  have S0 := S.defers; replace S := S1; clear S1
                  refine wl_pure (l' := [(121, undef), (118, .bool true), (120, undef), (119, undef), (13, .int .i64 c_122), (11, v_104), (1, v1), (6, v_25)]) S tys tys_ok 1 (by kernel_rfl) ?_; clear S; intro a S
                  refine wpList_nil ?_
                  exact RPost.mk_ S rfl S0 ⟨fun k_ => absurd k_ hc0, fun _ => rfl⟩ (Below.refl _ _)
              refine RunAll.cons (cndF (!(decide (y_132.xs = y_138))) false (isRep (.sl (.int .u8)) (Kx K w.heap.size [v_25.ownBlock]) y_146)) [(cndF (!(decide (y_132.xs = y_138))) false (isEl (.sl (.int .u8)) (Kx K w.heap.size [v_25.ownBlock]) y_146), 121), (eqv (.bool (!(decide (y_132.xs = y_138)))), 118)] rfl rfl ?_ ?_
              · intro W_ hW
                by_cases hc0 : (!(decide (y_132.xs = y_138))) = false
                · have hl0 : (!(decide (y_132.xs = y_138))) = false := hc0
                  have S1 := S
                  intro v_224 hF_225
                  replace hF_225 := cndF.pos hF_225 hc0
                  revert hF_225
                  revert v_224
                  rintro _ ⟨p_228, rfl, R_229, H_230⟩
                  replace S1 := S1.put (by decide : 121 < 246) (.pointer (some p_228))
                  intro v_232 hF_231; obtain rfl : .bool (!(decide (y_132.xs = y_138))) = v_232 := Eq.symm hF_231
                  replace S1 := S1.put (by decide : 118 < 246) (.bool (!(decide (y_132.xs = y_138))))
                  refine fill_nil S1 ?_; clear S1; intro a_ S1
                  rw [show (!(decide (y_132.xs = y_138))) = false from hl0] at S1
                  have S0 := S.defers; replace S := S1; clear S1
                  obtain ⟨ey_146, ex_153, ey_154, _⟩ := (HG_145).1 hc0
                  refine w_go S rfl (op_load (t := (.sl (.int .u8))) (x := y_146) S rfl ty23 rfl rfl rfl R_229 ?_)
                  clear S; intro a v_233 R_234 S
                  refine wpList_nil ?_
                  exact RPost.mk_ S rfl S0 ⟨fun _ => R_234, fun k_ => absurd hc0 k_⟩ (Below.refl _ _)
                · have hl0 : (!(decide (y_132.xs = y_138))) = true := (by simpa using hc0)
                  have S1 := S
                  intro v_235 hF_236
                  obtain rfl := cndF.neg hF_236 hc0
                  replace S1 := S1.put (by decide : 121 < 246) (undef)
                  intro v_238 hF_237; obtain rfl : .bool (!(decide (y_132.xs = y_138))) = v_238 := Eq.symm hF_237
                  replace S1 := S1.put (by decide : 118 < 246) (.bool (!(decide (y_132.xs = y_138))))
                  refine fill_nil S1 ?_; clear S1; intro a_ S1
                  rw [show (!(decide (y_132.xs = y_138))) = true from hl0] at S1
                  have S0 := S.defers; replace S := S1; clear S1
                  refine wl_pure (l' := [(122, undef), (118, .bool true), (121, undef), (13, .int .i64 c_122), (11, v_104), (1, v1), (6, v_25)]) S tys tys_ok 1 (by kernel_rfl) ?_; clear S; intro a S
                  refine wpList_nil ?_
                  exact RPost.mk_ S rfl S0 ⟨fun k_ => absurd k_ hc0, fun _ => rfl⟩ (Below.refl _ _)
              refine RunAll.cons (cndF (!(decide (y_132.xs = y_138))) false (isI .i64 x_153)) [(cndF (!(decide (y_132.xs = y_138))) false (isRep (.sl (.int .u8)) (Kx K w.heap.size [v_25.ownBlock]) y_146), 122), (eqv (.bool (!(decide (y_132.xs = y_138)))), 118)] rfl rfl ?_ ?_
              · intro W_ hW
                by_cases hc0 : (!(decide (y_132.xs = y_138))) = false
                · have hl0 : (!(decide (y_132.xs = y_138))) = false := hc0
                  have S1 := S
                  intro v_239 hF_240
                  replace hF_240 := cndF.pos hF_240 hc0
                  revert hF_240
                  revert v_239
                  intro v_242 hF_241; replace hF_241 : RepV _ _ _ _ _ := hF_241
                  replace S1 := S1.put (by decide : 122 < 246) (v_242)
                  intro v_244 hF_243; obtain rfl : .bool (!(decide (y_132.xs = y_138))) = v_244 := Eq.symm hF_243
                  replace S1 := S1.put (by decide : 118 < 246) (.bool (!(decide (y_132.xs = y_138))))
                  refine fill_nil S1 ?_; clear S1; intro a_ S1
                  replace W := W.step hW
                  rw [show (!(decide (y_132.xs = y_138))) = false from hl0] at S1
                  have S0 := S.defers; replace S := S1; clear S1
                  obtain ⟨ey_146, ex_153, ey_154, _⟩ := (HG_145).1 hc0
                  refine w_go S rfl (op_cap (K := _) S rfl ty23 rfl rfl rfl hF_241 ex_153 ?_)
                  clear S; intro a G_245 S
                  refine wpList_nil ?_
                  exact RPost.mk_ S rfl S0 ⟨fun _ => ⟨rfl, G_245⟩, fun k_ => absurd hc0 k_⟩ (Below.refl _ _)
                · have hl0 : (!(decide (y_132.xs = y_138))) = true := (by simpa using hc0)
                  have S1 := S
                  intro v_246 hF_247
                  obtain rfl := cndF.neg hF_247 hc0
                  replace S1 := S1.put (by decide : 122 < 246) (undef)
                  intro v_249 hF_248; obtain rfl : .bool (!(decide (y_132.xs = y_138))) = v_249 := Eq.symm hF_248
                  replace S1 := S1.put (by decide : 118 < 246) (.bool (!(decide (y_132.xs = y_138))))
                  refine fill_nil S1 ?_; clear S1; intro a_ S1
                  rw [show (!(decide (y_132.xs = y_138))) = true from hl0] at S1
                  have S0 := S.defers; replace S := S1; clear S1
                  refine wl_pure (l' := [(123, undef), (118, .bool true), (122, undef), (13, .int .i64 c_122), (11, v_104), (1, v1), (6, v_25)]) S tys tys_ok 1 (by kernel_rfl) ?_; clear S; intro a S
                  refine wpList_nil ?_
                  exact RPost.mk_ S rfl S0 ⟨fun k_ => absurd k_ hc0, fun _ => rfl⟩ (Below.refl _ _)
              refine RunAll.cons (cndF (!(decide (y_132.xs = y_138))) false (isRep (.sl (.sl (.int .u8))) (Kx K w.heap.size [v_25.ownBlock]) t_103.1)) [(eqv (.bool (!(decide (y_132.xs = y_138)))), 118)] rfl rfl ?_ ?_
              · intro W_ hW
                by_cases hc0 : (!(decide (y_132.xs = y_138))) = false
                · have hl0 : (!(decide (y_132.xs = y_138))) = false := hc0
                  have S1 := S
                  intro v_251 hF_250; obtain rfl : .bool (!(decide (y_132.xs = y_138))) = v_251 := Eq.symm hF_250
                  replace S1 := S1.put (by decide : 118 < 246) (.bool (!(decide (y_132.xs = y_138))))
                  refine fill_nil S1 ?_; clear S1; intro a_ S1
                  replace R_106 := R_106.step hW
                  rw [show (!(decide (y_132.xs = y_138))) = false from hl0] at S1
                  have S0 := S.defers; replace S := S1; clear S1
                  refine wl_pure (l' := [(124, v_104), (118, .bool false), (13, .int .i64 c_122), (11, v_104), (1, v1), (6, v_25)]) S tys tys_ok 1 (by kernel_rfl) ?_; clear S; intro a S
                  refine wpList_nil ?_
                  exact RPost.mk_ S rfl S0 ⟨fun _ => R_106, fun k_ => absurd hc0 k_⟩ (Below.refl _ _)
                · have hl0 : (!(decide (y_132.xs = y_138))) = true := (by simpa using hc0)
                  have S1 := S
                  intro v_253 hF_252; obtain rfl : .bool (!(decide (y_132.xs = y_138))) = v_253 := Eq.symm hF_252
                  replace S1 := S1.put (by decide : 118 < 246) (.bool (!(decide (y_132.xs = y_138))))
                  refine fill_nil S1 ?_; clear S1; intro a_ S1
                  rw [show (!(decide (y_132.xs = y_138))) = true from hl0] at S1
                  have S0 := S.defers; replace S := S1; clear S1
                  refine wl_pure (l' := [(124, undef), (118, .bool true), (13, .int .i64 c_122), (11, v_104), (1, v1), (6, v_25)]) S tys tys_ok 1 (by kernel_rfl) ?_; clear S; intro a S
                  refine wpList_nil ?_
                  exact RPost.mk_ S rfl S0 ⟨fun k_ => absurd k_ hc0, fun _ => rfl⟩ (Below.refl _ _)
              refine RunAll.cons (cndF (!(decide (y_132.xs = y_138))) false (isI .i64 c_122)) [(eqv (.bool (!(decide (y_132.xs = y_138)))), 118)] rfl rfl ?_ ?_
              · intro W_ hW
                by_cases hc0 : (!(decide (y_132.xs = y_138))) = false
                · have hl0 : (!(decide (y_132.xs = y_138))) = false := hc0
                  have S1 := S
                  intro v_255 hF_254; obtain rfl : .bool (!(decide (y_132.xs = y_138))) = v_255 := Eq.symm hF_254
                  replace S1 := S1.put (by decide : 118 < 246) (.bool (!(decide (y_132.xs = y_138))))
                  refine fill_nil S1 ?_; clear S1; intro a_ S1
                  rw [show (!(decide (y_132.xs = y_138))) = false from hl0] at S1
                  have S0 := S.defers; replace S := S1; clear S1
                  refine wl_pure (l' := [(125, .int .i64 c_122), (118, .bool false), (13, .int .i64 c_122), (11, v_104), (1, v1), (6, v_25)]) S tys tys_ok 1 (by kernel_rfl) ?_; clear S; intro a S
                  refine wpList_nil ?_
                  exact RPost.mk_ S rfl S0 ⟨fun _ => ⟨rfl, G_123⟩, fun k_ => absurd hc0 k_⟩ (Below.refl _ _)
                · have hl0 : (!(decide (y_132.xs = y_138))) = true := (by simpa using hc0)
                  have S1 := S
                  intro v_257 hF_256; obtain rfl : .bool (!(decide (y_132.xs = y_138))) = v_257 := Eq.symm hF_256
                  replace S1 := S1.put (by decide : 118 < 246) (.bool (!(decide (y_132.xs = y_138))))
                  refine fill_nil S1 ?_; clear S1; intro a_ S1
                  rw [show (!(decide (y_132.xs = y_138))) = true from hl0] at S1
                  have S0 := S.defers; replace S := S1; clear S1
                  refine wl_pure (l' := [(125, undef), (118, .bool true), (13, .int .i64 c_122), (11, v_104), (1, v1), (6, v_25)]) S tys tys_ok 1 (by kernel_rfl) ?_; clear S; intro a S
                  refine wpList_nil ?_
                  exact RPost.mk_ S rfl S0 ⟨fun k_ => absurd k_ hc0, fun _ => rfl⟩ (Below.refl _ _)
              refine RunAll.cons (cndF (!(decide (y_132.xs = y_138))) false (isEl (.sl (.int .u8)) (Kx K w.heap.size [v_25.ownBlock]) y_154)) [(cndF (!(decide (y_132.xs = y_138))) false (isRep (.sl (.sl (.int .u8))) (Kx K w.heap.size [v_25.ownBlock]) t_103.1), 124), (cndF (!(decide (y_132.xs = y_138))) false (isI .i64 c_122), 125), (eqv (.bool (!(decide (y_132.xs = y_138)))), 118)] rfl rfl ?_ ?_
              · intro W_ hW
                by_cases hc0 : (!(decide (y_132.xs = y_138))) = false
                · have hl0 : (!(decide (y_132.xs = y_138))) = false := hc0
                  have S1 := S
                  intro v_258 hF_259
                  replace hF_259 := cndF.pos hF_259 hc0
                  revert hF_259
                  revert v_258
                  intro v_261 hF_260; replace hF_260 : RepV _ _ _ _ _ := hF_260
                  replace S1 := S1.put (by decide : 124 < 246) (v_261)
                  intro v_262 hF_263
                  replace hF_263 := cndF.pos hF_263 hc0
                  revert hF_263
                  revert v_262
                  rintro _ ⟨rfl, hF_264⟩
                  replace S1 := S1.put (by decide : 125 < 246) (.int .i64 c_122)
                  intro v_267 hF_266; obtain rfl : .bool (!(decide (y_132.xs = y_138))) = v_267 := Eq.symm hF_266
                  replace S1 := S1.put (by decide : 118 < 246) (.bool (!(decide (y_132.xs = y_138))))
                  refine fill_nil S1 ?_; clear S1; intro a_ S1
                  replace W := W.step hW
                  rw [show (!(decide (y_132.xs = y_138))) = false from hl0] at S1
                  have S0 := S.defers; replace S := S1; clear S1
                  obtain ⟨ey_146, ex_153, ey_154, _⟩ := (HG_145).1 hc0
                  refine w_go S rfl (op_indexAddr S rfl ty27 rfl rfl rfl hF_260 rfl ey_154 ?_)
                  clear S; intro a p_268 R_269 H_270 S
                  refine wpList_nil ?_
                  exact RPost.mk_ S rfl S0 ⟨fun _ => ⟨_, rfl, R_269, H_270⟩, fun k_ => absurd hc0 k_⟩ (Below.refl _ _)
                · have hl0 : (!(decide (y_132.xs = y_138))) = true := (by simpa using hc0)
                  have S1 := S
                  intro v_271 hF_272
                  obtain rfl := cndF.neg hF_272 hc0
                  replace S1 := S1.put (by decide : 124 < 246) (undef)
                  intro v_273 hF_274
                  obtain rfl := cndF.neg hF_274 hc0
                  replace S1 := S1.put (by decide : 125 < 246) (undef)
                  intro v_276 hF_275; obtain rfl : .bool (!(decide (y_132.xs = y_138))) = v_276 := Eq.symm hF_275
                  replace S1 := S1.put (by decide : 118 < 246) (.bool (!(decide (y_132.xs = y_138))))
                  refine fill_nil S1 ?_; clear S1; intro a_ S1
                  rw [show (!(decide (y_132.xs = y_138))) = true from hl0] at S1
                  have S0 := S.defers; replace S := S1; clear S1
                  refine wl_pure (l' := [(126, undef), (118, .bool true), (125, undef), (124, undef), (13, .int .i64 c_122), (11, v_104), (1, v1), (6, v_25)]) S tys tys_ok 1 (by kernel_rfl) ?_; clear S; intro a S
                  refine wpList_nil ?_
                  exact RPost.mk_ S rfl S0 ⟨fun k_ => absurd k_ hc0, fun _ => rfl⟩ (Below.refl _ _)
              refine RunAll.cons (cndF (!(decide (y_132.xs = y_138))) false (isRep (.sl (.int .u8)) (Kx K w.heap.size [v_25.ownBlock]) y_154)) [(cndF (!(decide (y_132.xs = y_138))) false (isEl (.sl (.int .u8)) (Kx K w.heap.size [v_25.ownBlock]) y_154), 126), (eqv (.bool (!(decide (y_132.xs = y_138)))), 118)] rfl rfl ?_ ?_
              · intro W_ hW
                by_cases hc0 : (!(decide (y_132.xs = y_138))) = false
                · have hl0 : (!(decide (y_132.xs = y_138))) = false := hc0
                  have S1 := S
                  intro v_277 hF_278
                  replace hF_278 := cndF.pos hF_278 hc0
                  revert hF_278
                  revert v_277
                  rintro _ ⟨p_281, rfl, R_282, H_283⟩
                  replace S1 := S1.put (by decide : 126 < 246) (.pointer (some p_281))
                  intro v_285 hF_284; obtain rfl : .bool (!(decide (y_132.xs = y_138))) = v_285 := Eq.symm hF_284
                  replace S1 := S1.put (by decide : 118 < 246) (.bool (!(decide (y_132.xs = y_138))))
                  refine fill_nil S1 ?_; clear S1; intro a_ S1
                  rw [show (!(decide (y_132.xs = y_138))) = false from hl0] at S1
                  have S0 := S.defers; replace S := S1; clear S1
                  obtain ⟨ey_146, ex_153, ey_154, _⟩ := (HG_145).1 hc0
                  refine w_go S rfl (op_load (t := (.sl (.int .u8))) (x := y_154) S rfl ty23 rfl rfl rfl R_282 ?_)
                  clear S; intro a v_286 R_287 S
                  refine wpList_nil ?_
                  exact RPost.mk_ S rfl S0 ⟨fun _ => R_287, fun k_ => absurd hc0 k_⟩ (Below.refl _ _)
                · have hl0 : (!(decide (y_132.xs = y_138))) = true := (by simpa using hc0)
                  have S1 := S
                  intro v_288 hF_289
                  obtain rfl := cndF.neg hF_289 hc0
                  replace S1 := S1.put (by decide : 126 < 246) (undef)
                  intro v_291 hF_290; obtain rfl : .bool (!(decide (y_132.xs = y_138))) = v_291 := Eq.symm hF_290
                  replace S1 := S1.put (by decide : 118 < 246) (.bool (!(decide (y_132.xs = y_138))))
                  refine fill_nil S1 ?_; clear S1; intro a_ S1
                  rw [show (!(decide (y_132.xs = y_138))) = true from hl0] at S1
                  have S0 := S.defers; replace S := S1; clear S1
                  refine wl_pure (l' := [(127, undef), (118, .bool true), (126, undef), (13, .int .i64 c_122), (11, v_104), (1, v1), (6, v_25)]) S tys tys_ok 1 (by kernel_rfl) ?_; clear S; intro a S
                  refine wpList_nil ?_
                  exact RPost.mk_ S rfl S0 ⟨fun k_ => absurd k_ hc0, fun _ => rfl⟩ (Below.refl _ _)
              refine RunAll.cons (cndF (!(decide (y_132.xs = y_138))) false (isI .i64 (lenI y_154))) [(cndF (!(decide (y_132.xs = y_138))) false (isRep (.sl (.int .u8)) (Kx K w.heap.size [v_25.ownBlock]) y_154), 127), (eqv (.bool (!(decide (y_132.xs = y_138)))), 118)] rfl rfl ?_ ?_
              · intro W_ hW
                by_cases hc0 : (!(decide (y_132.xs = y_138))) = false
                · have hl0 : (!(decide (y_132.xs = y_138))) = false := hc0
                  have S1 := S
                  intro v_292 hF_293
                  replace hF_293 := cndF.pos hF_293 hc0
                  revert hF_293
                  revert v_292
                  intro v_295 hF_294; replace hF_294 : RepV _ _ _ _ _ := hF_294
                  replace S1 := S1.put (by decide : 127 < 246) (v_295)
                  intro v_297 hF_296; obtain rfl : .bool (!(decide (y_132.xs = y_138))) = v_297 := Eq.symm hF_296
                  replace S1 := S1.put (by decide : 118 < 246) (.bool (!(decide (y_132.xs = y_138))))
                  refine fill_nil S1 ?_; clear S1; intro a_ S1
                  replace W := W.step hW
                  rw [show (!(decide (y_132.xs = y_138))) = false from hl0] at S1
                  have S0 := S.defers; replace S := S1; clear S1
                  obtain ⟨ey_146, ex_153, ey_154, _⟩ := (HG_145).1 hc0
                  refine w_go S rfl (op_len (K := _) S rfl ty23 rfl rfl rfl hF_294 ?_)
                  clear S; intro a G_298 S
                  refine wpList_nil ?_
                  exact RPost.mk_ S rfl S0 ⟨fun _ => ⟨rfl, G_298⟩, fun k_ => absurd hc0 k_⟩ (Below.refl _ _)
                · have hl0 : (!(decide (y_132.xs = y_138))) = true := (by simpa using hc0)
                  have S1 := S
                  intro v_299 hF_300
                  obtain rfl := cndF.neg hF_300 hc0
                  replace S1 := S1.put (by decide : 127 < 246) (undef)
                  intro v_302 hF_301; obtain rfl : .bool (!(decide (y_132.xs = y_138))) = v_302 := Eq.symm hF_301
                  replace S1 := S1.put (by decide : 118 < 246) (.bool (!(decide (y_132.xs = y_138))))
                  refine fill_nil S1 ?_; clear S1; intro a_ S1
                  rw [show (!(decide (y_132.xs = y_138))) = true from hl0] at S1
                  have S0 := S.defers; replace S := S1; clear S1
                  refine wl_pure (l' := [(128, undef), (118, .bool true), (127, undef), (13, .int .i64 c_122), (11, v_104), (1, v1), (6, v_25)]) S tys tys_ok 1 (by kernel_rfl) ?_; clear S; intro a S
                  refine wpList_nil ?_
                  exact RPost.mk_ S rfl S0 ⟨fun k_ => absurd k_ hc0, fun _ => rfl⟩ (Below.refl _ _)
              refine RunAll.cons (cndF (!(decide (y_132.xs = y_138))) false (eqv (.bool (x_153 != (lenI y_154))))) [(cndF (!(decide (y_132.xs = y_138))) false (isI .i64 x_153), 123), (cndF (!(decide (y_132.xs = y_138))) false (isI .i64 (lenI y_154)), 128), (eqv (.bool (!(decide (y_132.xs = y_138)))), 118)] rfl rfl ?_ ?_
              · intro W_ hW
                by_cases hc0 : (!(decide (y_132.xs = y_138))) = false
                · have hl0 : (!(decide (y_132.xs = y_138))) = false := hc0
                  have S1 := S
                  intro v_303 hF_304
                  replace hF_304 := cndF.pos hF_304 hc0
                  revert hF_304
                  revert v_303
                  rintro _ ⟨rfl, hF_305⟩
                  replace S1 := S1.put (by decide : 123 < 246) (.int .i64 x_153)
                  intro v_307 hF_308
                  replace hF_308 := cndF.pos hF_308 hc0
                  revert hF_308
                  revert v_307
                  rintro _ ⟨rfl, hF_309⟩
                  replace S1 := S1.put (by decide : 128 < 246) (.int .i64 (lenI y_154))
                  intro v_312 hF_311; obtain rfl : .bool (!(decide (y_132.xs = y_138))) = v_312 := Eq.symm hF_311
                  replace S1 := S1.put (by decide : 118 < 246) (.bool (!(decide (y_132.xs = y_138))))
                  refine fill_nil S1 ?_; clear S1; intro a_ S1
                  rw [show (!(decide (y_132.xs = y_138))) = false from hl0] at S1
                  have S0 := S.defers; replace S := S1; clear S1
                  refine wl_pure (l' := [(129, .bool (x_153 != (lenI y_154))), (118, .bool false), (128, .int .i64 (lenI y_154)), (123, .int .i64 x_153), (13, .int .i64 c_122), (11, v_104), (1, v1), (6, v_25)]) S tys tys_ok 1 (by kernel_rfl) ?_; clear S; intro a S
                  refine wpList_nil ?_
                  exact RPost.mk_ S rfl S0 ⟨fun _ => rfl, fun k_ => absurd hc0 k_⟩ (Below.refl _ _)
                · have hl0 : (!(decide (y_132.xs = y_138))) = true := (by simpa using hc0)
                  have S1 := S
                  intro v_313 hF_314
                  obtain rfl := cndF.neg hF_314 hc0
                  replace S1 := S1.put (by decide : 123 < 246) (undef)
                  intro v_315 hF_316
                  obtain rfl := cndF.neg hF_316 hc0
                  replace S1 := S1.put (by decide : 128 < 246) (undef)
                  intro v_318 hF_317; obtain rfl : .bool (!(decide (y_132.xs = y_138))) = v_318 := Eq.symm hF_317
                  replace S1 := S1.put (by decide : 118 < 246) (.bool (!(decide (y_132.xs = y_138))))
                  refine fill_nil S1 ?_; clear S1; intro a_ S1
                  rw [show (!(decide (y_132.xs = y_138))) = true from hl0] at S1
                  have S0 := S.defers; replace S := S1; clear S1
                  refine wl_pure (l' := [(129, undef), (118, .bool true), (128, undef), (123, undef), (13, .int .i64 c_122), (11, v_104), (1, v1), (6, v_25)]) S tys tys_ok 1 (by kernel_rfl) ?_; clear S; intro a S
                  refine wpList_nil ?_
                  exact RPost.mk_ S rfl S0 ⟨fun k_ => absurd k_ hc0, fun _ => rfl⟩ (Below.refl _ _)
              refine RunAll.cons (eqv (.bool q_144)) [(eqv (.bool (!(decide (y_132.xs = y_138)))), 118), (cndF (!(decide (y_132.xs = y_138))) false (eqv (.bool (x_153 != (lenI y_154)))), 129)] rfl rfl ?_ ?_
              · intro W_ hW
                by_cases hc0 : (!(decide (y_132.xs = y_138))) = false
                · have hl0 : (!(decide (y_132.xs = y_138))) = false := hc0
                  have S1 := S
                  intro v_320 hF_319; obtain rfl : .bool (!(decide (y_132.xs = y_138))) = v_320 := Eq.symm hF_319
                  replace S1 := S1.put (by decide : 118 < 246) (.bool (!(decide (y_132.xs = y_138))))
                  intro v_321 hF_322
                  replace hF_322 := cndF.pos hF_322 hc0
                  revert hF_322
                  revert v_321
                  intro v_324 hF_323; obtain rfl : .bool (x_153 != (lenI y_154)) = v_324 := Eq.symm hF_323
                  replace S1 := S1.put (by decide : 129 < 246) (.bool (x_153 != (lenI y_154)))
                  refine fill_nil S1 ?_; clear S1; intro a_ S1
                  rw [show (!(decide (y_132.xs = y_138))) = false from hl0] at S1
                  have S0 := S.defers; replace S := S1; clear S1
                  refine wl_pure (l' := [(130, .bool (x_153 != (lenI y_154))), (129, .bool (x_153 != (lenI y_154))), (118, .bool false), (13, .int .i64 c_122), (11, v_104), (1, v1), (6, v_25)]) S tys tys_ok 1 (by kernel_rfl) ?_; clear S; intro a S
                  refine wpList_nil ?_
                  exact RPost.mk_ S rfl S0 (congrArg Value.bool ((HG_145).1 hc0).2.2.2) (Below.refl _ _)
                · have hl0 : (!(decide (y_132.xs = y_138))) = true := (by simpa using hc0)
                  have S1 := S
                  intro v_326 hF_325; obtain rfl : .bool (!(decide (y_132.xs = y_138))) = v_326 := Eq.symm hF_325
                  replace S1 := S1.put (by decide : 118 < 246) (.bool (!(decide (y_132.xs = y_138))))
                  intro v_327 hF_328
                  obtain rfl := cndF.neg hF_328 hc0
                  replace S1 := S1.put (by decide : 129 < 246) (undef)
                  refine fill_nil S1 ?_; clear S1; intro a_ S1
                  rw [show (!(decide (y_132.xs = y_138))) = true from hl0] at S1
                  have S0 := S.defers; replace S := S1; clear S1
                  refine wl_pure (l' := [(130, .bool true), (129, undef), (118, .bool true), (13, .int .i64 c_122), (11, v_104), (1, v1), (6, v_25)]) S tys tys_ok 1 (by kernel_rfl) ?_; clear S; intro a S
                  refine wpList_nil ?_
                  exact RPost.mk_ S rfl S0 (congrArg Value.bool ((HG_145).2 hc0)) (Below.refl _ _)
              exact trivial
            intro w_329 hb_330
            refine EndE.some_ rfl ?_
            intro v_332 hF_331; replace hF_331 : RepV _ _ _ _ _ := hF_331
            replace S := S.put (by decide : 108 < 246) (v_332)
            refine EndE.some_ rfl ?_
            rintro _ ⟨rfl, hF_333⟩
            replace S := S.put (by decide : 109 < 246) (.int .i64 c_122)
            refine EndE.some_ rfl ?_
            rintro _ ⟨p_337, rfl, R_338, H_339⟩
            replace S := S.put (by decide : 110 < 246) (.pointer (some p_337))
            refine EndE.some_ rfl ?_
            intro v_341 hF_340; replace hF_340 : RepV _ _ _ _ _ := hF_340
            replace S := S.put (by decide : 111 < 246) (v_341)
            refine EndE.some_ rfl ?_
            rintro _ ⟨rfl, hF_342⟩
            replace S := S.put (by decide : 112 < 246) (.string (strOfNums y_132.xs))
            refine EndE.some_ rfl ?_
            intro v_345 hF_344; obtain rfl : v_25 = v_345 := Eq.symm hF_344
            replace S := S.put (by decide : 113 < 246) (v_25)
            refine EndE.some_ rfl ?_
            rintro _ ⟨rfl, hF_346⟩
            replace S := S.put (by decide : 114 < 246) (.int .i64 c_122)
            refine EndE.some_ rfl ?_
            rintro _ ⟨p_350, rfl, R_351, H_352⟩
            replace S := S.put (by decide : 115 < 246) (.pointer (some p_350))
            refine EndE.some_ rfl ?_
            rintro _ ⟨rfl, hF_353⟩
            replace S := S.put (by decide : 116 < 246) (.string (strOfNums y_138))
            refine EndE.some_ rfl ?_
            intro v_356 hF_355; obtain rfl : .bool (!(decide (y_132.xs = y_138))) = v_356 := Eq.symm hF_355
            replace S := S.put (by decide : 117 < 246) (.bool (!(decide (y_132.xs = y_138))))
            refine EndE.some_ rfl ?_
            intro v_358 hF_357; obtain rfl : .bool (!(decide (y_132.xs = y_138))) = v_358 := Eq.symm hF_357
            replace S := S.put (by decide : 118 < 246) (.bool (!(decide (y_132.xs = y_138))))
            refine EndE.some_ rfl ?_
            intro v_359 _
            replace S := S.put (by decide : 119 < 246) (v_359)
            refine EndE.some_ rfl ?_
            intro v_360 _
            replace S := S.put (by decide : 120 < 246) (v_360)
            refine EndE.some_ rfl ?_
            intro v_361 _
            replace S := S.put (by decide : 121 < 246) (v_361)
            refine EndE.some_ rfl ?_
            intro v_362 _
            replace S := S.put (by decide : 122 < 246) (v_362)
            refine EndE.some_ rfl ?_
            intro v_363 _
            replace S := S.put (by decide : 123 < 246) (v_363)
            refine EndE.some_ rfl ?_
            intro v_364 _
            replace S := S.put (by decide : 124 < 246) (v_364)
            refine EndE.some_ rfl ?_
            intro v_365 _
            replace S := S.put (by decide : 125 < 246) (v_365)
            refine EndE.some_ rfl ?_
            intro v_366 _
            replace S := S.put (by decide : 126 < 246) (v_366)
            refine EndE.some_ rfl ?_
            intro v_367 _
            replace S := S.put (by decide : 127 < 246) (v_367)
            refine EndE.some_ rfl ?_
            intro v_368 _
            replace S := S.put (by decide : 128 < 246) (v_368)
            refine EndE.some_ rfl ?_
            intro v_369 _
            replace S := S.put (by decide : 129 < 246) (v_369)
            refine EndE.some_ rfl ?_
            intro v_371 hF_370; obtain rfl : .bool q_144 = v_371 := Eq.symm hF_370
            replace S := S.put (by decide : 130 < 246) (.bool q_144)
            refine endE_nil S ?_; clear S; intro a S
            replace R_106 := R_106.step hb_330
            replace R1 := R1.step hb_330
            replace O_26 := O_26.step hb_330
            replace W := W.step hb_330
            refine then_n ?_
            replace S := S.sub (l' := [(130, .bool q_144), (13, .int .i64 c_122), (11, v_104), (1, v1), (6, v_25)]) (by exact ⟨rfl, rfl, rfl, rfl, rfl, trivial⟩)
            refine wp_cond_split (S.eval (show ev _ _ = some (.bool q_144) from rfl)) ?_ ?_
            · intro hc
              rw [if_pos hc] at hl_129
              refine wp_seq ?_
              refine wp_region_lit ?_
              refine wl_pure (l' := [(4, .bool false), (130, .bool q_144), (13, .int .i64 c_122), (11, v_104), (1, v1), (6, v_25)]) S tys tys_ok 1 (by kernel_rfl) ?_
              clear S; intro a S
              refine wpList_nil ?_
              refine then_n ?_
              replace S := S.sub (l' := [(4, .bool false)]) (by exact ⟨rfl, trivial⟩)
              refine wp_ret ?_
              refine blk_r ?_
              refine then_r ?_
              refine then_r ?_
              refine blk_r ?_
              refine then_r ?_
              refine then_r ?_
              obtain rfl := Option.some.inj hl_129
              obtain rfl := lr_inr h
              exact b_ret1 S rfl rfl ⟨_, rfl, RepV.mkBool, W.below⟩
            · intro hc
              rw [if_neg (Bool.eq_false_iff.1 hc)] at hl_129
              refine wp_skip ?_
              refine blk_n ?_
              refine then_n ?_
              replace S := S.sub (l' := [(13, .int .i64 c_122), (11, v_104), (1, v1), (6, v_25)]) (by exact ⟨rfl, rfl, rfl, rfl, trivial⟩)
              refine wp_region_lit ?_
              refine wl_pure (l' := [(106, .int .i64 c_122), (13, .int .i64 c_122), (11, v_104), (1, v1), (6, v_25)]) S tys tys_ok 1 (by kernel_rfl) ?_
              clear S; intro a S
              obtain ⟨x_372, ex_372, hl_129⟩ := bindS hl_129
              refine w_go S rfl (op_arith S .i64 (c_122 + 1) rfl (.inl rfl) rfl rfl rfl rfl ex_372 ?_)
              clear S; intro a S
              refine wl_pure (l' := [(13, .int .i64 x_372), (107, .int .i64 x_372), (106, .int .i64 c_122), (13, .int .i64 c_122), (11, v_104), (1, v1), (6, v_25)]) S tys tys_ok 1 (by kernel_rfl) ?_
              clear S; intro a S
              refine wpList_nil ?_
              refine then_n ?_
              exact ⟨x_372, ⟨S.sub (by exact ⟨rfl, rfl, rfl, rfl, trivial⟩), W, (ckI_some ex_372).2.1, R_106, R1, O_26, hl_129⟩⟩
          · intro hc
            rw [if_neg (Bool.eq_false_iff.1 hc)] at hl_129
            refine wp_exit ?_
            refine then_x ?_
            refine then_x ?_
            refine blk_hit ?_
            refine then_n ?_
            obtain rfl := Option.some.inj hl_129
            exact ⟨_, rfl, ⟨S.sub (by exact ⟨rfl, trivial⟩), W, R1⟩⟩
    clear S W; rintro a w_373 ⟨s_127, rfl, S, W, R1⟩
    replace h := lr_inl h; try dsimp only at h
    refine then_n ?_
    refine wp_seq ?_
    refine wp_region_lit ?_
    refine wl_pure (l' := [(131, v1), (1, v1)]) S tys tys_ok 1 (by kernel_rfl) ?_
    clear S; intro a S
    refine w_go S rfl (op_str (K := _) S rfl ty23 ty9 rfl rfl rfl R1 ?_)
    clear S; intro a S
    refine wl_pure (l' := [(14, .string (strOfNums x1.xs)), (132, .string (strOfNums x1.xs)), (131, v1), (1, v1)]) S tys tys_ok 1 (by kernel_rfl) ?_
    clear S; intro a S
    refine wpList_nil ?_
    refine then_n ?_
    replace S := S.sub (l' := [(14, .string (strOfNums x1.xs)), (1, v1)]) (by exact ⟨rfl, rfl, trivial⟩)
    refine wp_seq ?_
    refine wp_region_lit ?_
    refine wl_pure (l' := [(134, v1), (14, .string (strOfNums x1.xs)), (1, v1)]) S tys tys_ok 1 (by kernel_rfl) ?_
    clear S; intro a S
    obtain ⟨t_374, et_374, h⟩ := bindS h
    refine w_go S rfl (op_call (vs := [v1]) S rfl cb12 rfl rfl rfl (c12 (Kx K w.heap.size [v_25.ownBlock]) n w_373 x1 _ R1 et_374) ?_)
    rintro _ w_380 ⟨v_375, v_376, rfl, R_377, R_378, hb_379⟩; refine ⟨_, rfl, ?_⟩
    replace R_377 := RepV.back R_377 W
    replace R_378 := RepV.back R_378 W
    clear S; intro a S
    replace R1 := R1.step hb_379
    replace W := W.step hb_379
    obtain ⟨rfl, GR_378⟩ := RepV.int R_378
    refine wl_pure (l' := [(12, .int .i64 t_374.2), (11, v_375), (137, .int .i64 t_374.2), (136, v_375), (133, .tuple #[v_375, .int .i64 t_374.2]), (135, .tuple #[v_375, .int .i64 t_374.2]), (134, v1), (14, .string (strOfNums x1.xs)), (1, v1)]) S tys tys_ok 5 (by kernel_rfl) ?_
    clear S; intro a S
    refine wpList_nil ?_
    refine then_n ?_
    replace S := S.sub (l' := [(12, .int .i64 t_374.2), (11, v_375), (14, .string (strOfNums x1.xs)), (1, v1)]) (by exact ⟨rfl, rfl, rfl, rfl, trivial⟩)
    refine wp_seq ?_
    refine wp_region_lit ?_
    refine wl_pure (l' := [(15, .int .i64 0), (12, .int .i64 t_374.2), (11, v_375), (14, .string (strOfNums x1.xs)), (1, v1)]) S tys tys_ok 1 (by kernel_rfl) ?_
    clear S; intro a S
    refine wpList_nil ?_
    refine then_n ?_
    refine wp_seq ?_
    refine wp_region_lit ?_
    refine wl_pure (l' := [(16, .int .i64 0), (15, .int .i64 0), (12, .int .i64 t_374.2), (11, v_375), (14, .string (strOfNums x1.xs)), (1, v1)]) S tys tys_ok 1 (by kernel_rfl) ?_
    clear S; intro a S
    refine wpList_nil ?_
    refine then_n ?_
    refine wp_seq ?_
    obtain ⟨y_389, ey_389, h⟩ := bindS h
    refine wp_cut_ (fun a_ w_ => St 246 a_ [(1, v1), (11, v_375), (12, .int .i64 t_374.2), (14, .string (strOfNums x1.xs)), (15, .int .i64 y_389.1), (16, .int .i64 y_389.2)] ∧ Wd w w_ [v_25.ownBlock] ∧ InR .i64 y_389.1 ∧ InR .i64 y_389.2 ∧ RepV (.sl (.int .u8)) w_ (Kx K w.heap.size [v_25.ownBlock]) v1 x1 ∧ RepV (.sl (.sl (.int .u8))) w_ (Kx K w.heap.size [v_25.ownBlock]) v_375 t_374.1) ?_ ?_
    · refine wp_block ?_
      refine wp_loop_n (fun m_ a_ w_ => ∃ (c_381 : Int) (c_383 : Int) , St 246 a_ [(16, .int .i64 c_381), (15, .int .i64 c_383), (12, .int .i64 t_374.2), (11, v_375), (14, .string (strOfNums x1.xs)), (1, v1)] ∧ Wd w w_ [v_25.ownBlock] ∧ InR .i64 c_381 ∧ InR .i64 c_383 ∧ RepV (.sl (.sl (.int .u8))) w_ (Kx K w.heap.size [v_25.ownBlock]) v_375 t_374.1 ∧ RepV (.sl (.int .u8)) w_ (Kx K w.heap.size [v_25.ownBlock]) v1 x1 ∧ p3_l4 n x1 m_ c_381 c_383 = some y_389) n ?_ ?_
      · skip
        exact ⟨0, 0, ⟨S.sub (by exact ⟨rfl, rfl, rfl, rfl, rfl, rfl, trivial⟩), W, (by decide), (by decide), R_377, R1, ey_389⟩⟩
      · clear S W; rintro m_392 a w_394 ⟨c_381, c_383, S, W, G_382, G_384, R_377, R1, hl_393⟩
        cases m_392 with
        | zero => exact absurd hl_393 (by simp [p3_l4])
        | succ m_392 =>
          refine ⟨m_392, rfl, ?_⟩
          rw [p3_l4] at hl_393
          refine wp_seq ?_
          refine wp_seq ?_
          refine wp_region_lit ?_
          refine wl_pure (l' := [(139, v1), (138, .int .i64 c_383), (16, .int .i64 c_381), (15, .int .i64 c_383), (12, .int .i64 t_374.2), (11, v_375), (14, .string (strOfNums x1.xs)), (1, v1)]) S tys tys_ok 2 (by kernel_rfl) ?_
          clear S; intro a S
          refine w_go S rfl (op_len (K := _) S rfl ty23 rfl rfl rfl R1 ?_)
          clear S; intro a G_395 S
          refine wl_pure (l' := [(142, .bool (decide (c_383 < (lenI x1)))), (141, .bool (decide (c_383 < (lenI x1)))), (140, .int .i64 (lenI x1)), (139, v1), (138, .int .i64 c_383), (16, .int .i64 c_381), (15, .int .i64 c_383), (12, .int .i64 t_374.2), (11, v_375), (14, .string (strOfNums x1.xs)), (1, v1)]) S tys tys_ok 2 (by kernel_rfl) ?_
          clear S; intro a S
          obtain ⟨q_396, eq_396, hl_393⟩ := bindS hl_393
          refine seg 6 (fun a_ w_ => w_394 = w_ ∧ St 246 a_ [(148, .bool q_396), (16, .int .i64 c_381), (15, .int .i64 c_383), (12, .int .i64 t_374.2), (11, v_375), (14, .string (strOfNums x1.xs)), (1, v1)]) ?_ ?_
          · by_cases hc : (decide (c_383 < (lenI x1))) = true
            · rw [if_pos hc] at eq_396; rw [hc] at S
              refine wl_pure (l' := [(144, .int .i64 c_383), (143, v1), (142, .bool true), (141, .bool true), (140, .int .i64 (lenI x1)), (139, v1), (138, .int .i64 c_383), (16, .int .i64 c_381), (15, .int .i64 c_383), (12, .int .i64 t_374.2), (11, v_375), (14, .string (strOfNums x1.xs)), (1, v1)]) S tys tys_ok 2 (by kernel_rfl) ?_
              clear S; intro a S
              obtain ⟨y_397, ey_397, eq_396⟩ := bindS eq_396
              refine w_go S rfl (op_indexAddr S rfl ty23 rfl rfl rfl R1 rfl ey_397 ?_)
              clear S; intro a p_398 R_399 H_400 S
              refine w_go S rfl (op_load (t := (.int .u8)) (x := y_397) S rfl ty5 rfl rfl rfl R_399 ?_)
              clear S; intro a v_401 R_402 S
              obtain ⟨rfl, GR_402⟩ := RepV.int R_402
              refine wl_pure (l' := [(148, .bool (decide (y_397 > 1))), (147, .bool (decide (y_397 > 1))), (146, .int .u8 y_397), (145, .pointer (some p_398)), (144, .int .i64 c_383), (143, v1), (142, .bool true), (141, .bool true), (140, .int .i64 (lenI x1)), (139, v1), (138, .int .i64 c_383), (16, .int .i64 c_381), (15, .int .i64 c_383), (12, .int .i64 t_374.2), (11, v_375), (14, .string (strOfNums x1.xs)), (1, v1)]) S tys tys_ok 2 (by kernel_rfl) ?_
              clear S; intro a S
              obtain rfl := Option.some.inj eq_396
              exact ⟨rfl, S.sub (by exact ⟨rfl, rfl, rfl, rfl, rfl, rfl, rfl, trivial⟩)⟩
            · rw [if_neg hc] at eq_396; rw [show (decide (c_383 < (lenI x1))) = false from Bool.eq_false_iff.2 hc] at S
              refine wl_pure (l' := [(148, .bool false), (147, undef), (146, undef), (145, undef), (144, undef), (143, undef), (142, .bool false), (141, .bool false), (140, .int .i64 (lenI x1)), (139, v1), (138, .int .i64 c_383), (16, .int .i64 c_381), (15, .int .i64 c_383), (12, .int .i64 t_374.2), (11, v_375), (14, .string (strOfNums x1.xs)), (1, v1)]) S tys tys_ok 6 (by kernel_rfl) ?_
              clear S; intro a S
              obtain rfl := Option.some.inj eq_396
              exact ⟨rfl, S.sub (by exact ⟨rfl, rfl, rfl, rfl, rfl, rfl, rfl, trivial⟩)⟩
          clear S eq_396; rintro a _ ⟨rfl, S⟩
          refine wl_pure (l' := [(149, .bool q_396), (148, .bool q_396), (16, .int .i64 c_381), (15, .int .i64 c_383), (12, .int .i64 t_374.2), (11, v_375), (14, .string (strOfNums x1.xs)), (1, v1)]) S tys tys_ok 1 (by kernel_rfl) ?_
          clear S; intro a S
          obtain ⟨q_403, eq_403, hl_393⟩ := bindS hl_393
          refine seg 11 (fun a_ w_ => w_394 = w_ ∧ St 246 a_ [(160, .bool q_403), (16, .int .i64 c_381), (15, .int .i64 c_383), (12, .int .i64 t_374.2), (11, v_375), (14, .string (strOfNums x1.xs)), (1, v1)]) ?_ ?_
          · by_cases hc : q_396 = true
            · rw [if_pos hc] at eq_403; rw [hc] at S
              refine wl_pure (l' := [(152, .int .i64 c_383), (151, v1), (150, .int .i64 c_383), (149, .bool true), (148, .bool true), (16, .int .i64 c_381), (15, .int .i64 c_383), (12, .int .i64 t_374.2), (11, v_375), (14, .string (strOfNums x1.xs)), (1, v1)]) S tys tys_ok 3 (by kernel_rfl) ?_
              clear S; intro a S
              obtain ⟨y_404, ey_404, eq_403⟩ := bindS eq_403
              refine w_go S rfl (op_indexAddr S rfl ty23 rfl rfl rfl R1 rfl ey_404 ?_)
              clear S; intro a p_405 R_406 H_407 S
              refine w_go S rfl (op_load (t := (.int .u8)) (x := y_404) S rfl ty5 rfl rfl rfl R_406 ?_)
              clear S; intro a v_408 R_409 S
              obtain ⟨rfl, GR_409⟩ := RepV.int R_409
              refine w_go S rfl (op_conv S .i64 .bool .bool rfl ty5 ty3 rfl rfl rfl (widen GR_409 (by decide)).1 ?_)
              clear S; intro a S
              obtain ⟨x_410, ex_410, eq_403⟩ := bindS eq_403
              refine w_go S rfl (op_arith S .i64 (c_383 + y_404) rfl (.inl rfl) rfl rfl rfl rfl ex_410 ?_)
              clear S; intro a S
              refine wl_pure (l' := [(157, v1), (156, .int .i64 x_410), (155, .int .i64 y_404), (154, .int .u8 y_404), (153, .pointer (some p_405)), (152, .int .i64 c_383), (151, v1), (150, .int .i64 c_383), (149, .bool true), (148, .bool true), (16, .int .i64 c_381), (15, .int .i64 c_383), (12, .int .i64 t_374.2), (11, v_375), (14, .string (strOfNums x1.xs)), (1, v1)]) S tys tys_ok 1 (by kernel_rfl) ?_
              clear S; intro a S
              refine w_go S rfl (op_len (K := _) S rfl ty23 rfl rfl rfl R1 ?_)
              clear S; intro a G_411 S
              refine wl_pure (l' := [(160, .bool (decide (x_410 ≤ (lenI x1)))), (159, .bool (decide (x_410 ≤ (lenI x1)))), (158, .int .i64 (lenI x1)), (157, v1), (156, .int .i64 x_410), (155, .int .i64 y_404), (154, .int .u8 y_404), (153, .pointer (some p_405)), (152, .int .i64 c_383), (151, v1), (150, .int .i64 c_383), (149, .bool true), (148, .bool true), (16, .int .i64 c_381), (15, .int .i64 c_383), (12, .int .i64 t_374.2), (11, v_375), (14, .string (strOfNums x1.xs)), (1, v1)]) S tys tys_ok 2 (by kernel_rfl) ?_
              clear S; intro a S
              obtain rfl := Option.some.inj eq_403
              exact ⟨rfl, S.sub (by exact ⟨rfl, rfl, rfl, rfl, rfl, rfl, rfl, trivial⟩)⟩
            · rw [if_neg hc] at eq_403; rw [show q_396 = false from Bool.eq_false_iff.2 hc] at S
              refine wl_pure (l' := [(160, .bool false), (159, undef), (158, undef), (157, undef), (156, undef), (155, undef), (154, undef), (153, undef), (152, undef), (151, undef), (150, undef), (149, .bool false), (148, .bool false), (16, .int .i64 c_381), (15, .int .i64 c_383), (12, .int .i64 t_374.2), (11, v_375), (14, .string (strOfNums x1.xs)), (1, v1)]) S tys tys_ok 11 (by kernel_rfl) ?_
              clear S; intro a S
              obtain rfl := Option.some.inj eq_403
              exact ⟨rfl, S.sub (by exact ⟨rfl, rfl, rfl, rfl, rfl, rfl, rfl, trivial⟩)⟩
          clear S eq_403; rintro a _ ⟨rfl, S⟩
          refine wpList_nil ?_
          refine then_n ?_
          refine wp_cond_split (S.eval (show ev _ _ = some (.bool q_403) from rfl)) ?_ ?_
          · intro hc
            rw [if_pos hc] at hl_393
            refine wp_skip ?_
            refine then_n ?_
            replace S := S.sub (l' := [(16, .int .i64 c_381), (15, .int .i64 c_383), (12, .int .i64 t_374.2), (11, v_375), (14, .string (strOfNums x1.xs)), (1, v1)]) (by exact ⟨rfl, rfl, rfl, rfl, rfl, rfl, trivial⟩)
            refine wp_block ?_
            refine wp_seq ?_
            refine wp_region_lit ?_
            refine wl_pure (l' := [(163, .int .i64 c_383), (162, v1), (161, .int .i64 c_383), (16, .int .i64 c_381), (15, .int .i64 c_383), (12, .int .i64 t_374.2), (11, v_375), (14, .string (strOfNums x1.xs)), (1, v1)]) S tys tys_ok 3 (by kernel_rfl) ?_
            clear S; intro a S
            obtain ⟨y_412, ey_412, hl_393⟩ := bindS hl_393
            refine w_go S rfl (op_indexAddr S rfl ty23 rfl rfl rfl R1 rfl ey_412 ?_)
            clear S; intro a p_413 R_414 H_415 S
            refine w_go S rfl (op_load (t := (.int .u8)) (x := y_412) S rfl ty5 rfl rfl rfl R_414 ?_)
            clear S; intro a v_416 R_417 S
            obtain ⟨rfl, GR_417⟩ := RepV.int R_417
            refine w_go S rfl (op_conv S .i64 .bool .bool rfl ty5 ty3 rfl rfl rfl (widen GR_417 (by decide)).1 ?_)
            clear S; intro a S
            obtain ⟨x_418, ex_418, hl_393⟩ := bindS hl_393
            refine w_go S rfl (op_arith S .i64 (c_383 + y_412) rfl (.inl rfl) rfl rfl rfl rfl ex_418 ?_)
            clear S; intro a S
            refine wl_pure (l' := [(15, .int .i64 x_418), (167, .int .i64 x_418), (166, .int .i64 y_412), (165, .int .u8 y_412), (164, .pointer (some p_413)), (163, .int .i64 c_383), (162, v1), (161, .int .i64 c_383), (16, .int .i64 c_381), (15, .int .i64 c_383), (12, .int .i64 t_374.2), (11, v_375), (14, .string (strOfNums x1.xs)), (1, v1)]) S tys tys_ok 1 (by kernel_rfl) ?_
            clear S; intro a S
            refine wpList_nil ?_
            refine then_n ?_
            replace S := S.sub (l' := [(15, .int .i64 x_418), (16, .int .i64 c_381), (12, .int .i64 t_374.2), (11, v_375), (14, .string (strOfNums x1.xs)), (1, v1)]) (by exact ⟨rfl, rfl, rfl, rfl, rfl, rfl, trivial⟩)
            refine wp_region_lit ?_
            refine wl_pure (l' := [(168, .int .i64 c_381), (15, .int .i64 x_418), (16, .int .i64 c_381), (12, .int .i64 t_374.2), (11, v_375), (14, .string (strOfNums x1.xs)), (1, v1)]) S tys tys_ok 1 (by kernel_rfl) ?_
            clear S; intro a S
            obtain ⟨x_419, ex_419, hl_393⟩ := bindS hl_393
            refine w_go S rfl (op_arith S .i64 (c_381 + 1) rfl (.inl rfl) rfl rfl rfl rfl ex_419 ?_)
            clear S; intro a S
            refine wl_pure (l' := [(16, .int .i64 x_419), (169, .int .i64 x_419), (168, .int .i64 c_381), (15, .int .i64 x_418), (16, .int .i64 c_381), (12, .int .i64 t_374.2), (11, v_375), (14, .string (strOfNums x1.xs)), (1, v1)]) S tys tys_ok 1 (by kernel_rfl) ?_
            clear S; intro a S
            refine wpList_nil ?_
            refine blk_n ?_
            refine then_n ?_
            exact ⟨x_419, x_418, ⟨S.sub (by exact ⟨rfl, rfl, rfl, rfl, rfl, rfl, trivial⟩), W, (ckI_some ex_419).2.1, (ckI_some ex_418).2.1, R_377, R1, hl_393⟩⟩
          · intro hc
            rw [if_neg (Bool.eq_false_iff.1 hc)] at hl_393
            refine wp_exit ?_
            refine then_x ?_
            refine then_x ?_
            refine blk_hit ?_
            refine then_n ?_
            obtain rfl := Option.some.inj hl_393
            exact ⟨S.sub (by exact ⟨rfl, rfl, rfl, rfl, rfl, rfl, trivial⟩), W, G_384, G_382, R1, R_377⟩
    clear S W; rintro a w_420 ⟨S, W, G_390, G_391, R1, R_377⟩
    refine then_n ?_
    refine wp_seq ?_
    refine wp_seq ?_
    refine wp_region_lit ?_
    refine wl_pure (l' := [(171, v1), (170, .int .i64 y_389.1), (1, v1), (11, v_375), (12, .int .i64 t_374.2), (14, .string (strOfNums x1.xs)), (15, .int .i64 y_389.1), (16, .int .i64 y_389.2)]) S tys tys_ok 2 (by kernel_rfl) ?_
    clear S; intro a S
    refine w_go S rfl (op_len (K := _) S rfl ty23 rfl rfl rfl R1 ?_)
    clear S; intro a G_421 S
    refine wl_pure (l' := [(173, .bool (decide (y_389.1 < (lenI x1)))), (172, .int .i64 (lenI x1)), (171, v1), (170, .int .i64 y_389.1), (1, v1), (11, v_375), (12, .int .i64 t_374.2), (14, .string (strOfNums x1.xs)), (15, .int .i64 y_389.1), (16, .int .i64 y_389.2)]) S tys tys_ok 1 (by kernel_rfl) ?_
    clear S; intro a S
    refine wpList_nil ?_
    refine then_n ?_
    replace S := S.sub (l' := [(173, .bool (decide (y_389.1 < (lenI x1)))), (1, v1), (11, v_375), (12, .int .i64 t_374.2), (14, .string (strOfNums x1.xs)), (16, .int .i64 y_389.2)]) (by exact ⟨rfl, rfl, rfl, rfl, rfl, rfl, trivial⟩)
    refine wp_cond_split (S.eval (show ev _ _ = some (.bool (decide (y_389.1 < (lenI x1)))) from rfl)) ?_ ?_
    · intro hc
      rw [if_pos hc] at h
      refine wp_seq ?_
      refine wp_region_lit ?_
      refine wl_pure (l' := [(176, .bool (t_374.2 == 4)), (175, .bool (t_374.2 == 4)), (174, .int .i64 t_374.2), (173, .bool (decide (y_389.1 < (lenI x1)))), (1, v1), (11, v_375), (12, .int .i64 t_374.2), (14, .string (strOfNums x1.xs)), (16, .int .i64 y_389.2)]) S tys tys_ok 3 (by kernel_rfl) ?_
      clear S; intro a S
      obtain ⟨q_422, eq_422, h⟩ := bindS h
      refine seg 4 (fun a_ w_ => w_420 = w_ ∧ St 246 a_ [(180, .bool q_422), (1, v1), (14, .string (strOfNums x1.xs))]) ?_ ?_
      · by_cases hc : (t_374.2 == 4) = true
        · rw [if_pos hc] at eq_422; rw [hc] at S
          refine wl_pure (l' := [(177, v_375), (176, .bool true), (175, .bool true), (174, .int .i64 t_374.2), (173, .bool (decide (y_389.1 < (lenI x1)))), (1, v1), (11, v_375), (12, .int .i64 t_374.2), (14, .string (strOfNums x1.xs)), (16, .int .i64 y_389.2)]) S tys tys_ok 1 (by kernel_rfl) ?_
          clear S; intro a S
          refine w_go S rfl (op_len (K := _) S rfl ty27 rfl rfl rfl R_377 ?_)
          clear S; intro a G_423 S
          refine wl_pure (l' := [(180, .bool ((lenI t_374.1) == 0)), (179, .bool ((lenI t_374.1) == 0)), (178, .int .i64 (lenI t_374.1)), (177, v_375), (176, .bool true), (175, .bool true), (174, .int .i64 t_374.2), (173, .bool (decide (y_389.1 < (lenI x1)))), (1, v1), (11, v_375), (12, .int .i64 t_374.2), (14, .string (strOfNums x1.xs)), (16, .int .i64 y_389.2)]) S tys tys_ok 2 (by kernel_rfl) ?_
          clear S; intro a S
          obtain rfl := Option.some.inj eq_422
          exact ⟨rfl, S.sub (by exact ⟨rfl, rfl, rfl, trivial⟩)⟩
        · rw [if_neg hc] at eq_422; rw [show (t_374.2 == 4) = false from Bool.eq_false_iff.2 hc] at S
          refine wl_pure (l' := [(180, .bool false), (179, undef), (178, undef), (177, undef), (176, .bool false), (175, .bool false), (174, .int .i64 t_374.2), (173, .bool (decide (y_389.1 < (lenI x1)))), (1, v1), (11, v_375), (12, .int .i64 t_374.2), (14, .string (strOfNums x1.xs)), (16, .int .i64 y_389.2)]) S tys tys_ok 4 (by kernel_rfl) ?_
          clear S; intro a S
          obtain rfl := Option.some.inj eq_422
          exact ⟨rfl, S.sub (by exact ⟨rfl, rfl, rfl, trivial⟩)⟩
      clear S eq_422; rintro a _ ⟨rfl, S⟩
      refine wl_pure (l' := [(181, .bool q_422), (180, .bool q_422), (1, v1), (14, .string (strOfNums x1.xs))]) S tys tys_ok 1 (by kernel_rfl) ?_
      clear S; intro a S
      obtain ⟨q_424, eq_424, h⟩ := bindS h
      refine seg 5 (fun a_ w_ => w_420 = w_ ∧ St 246 a_ [(186, .bool q_424)]) ?_ ?_
      · by_cases hc : q_422 = true
        · rw [if_pos hc] at eq_424; rw [hc] at S
          refine wl_pure (l' := [(182, v1), (181, .bool true), (180, .bool true), (1, v1), (14, .string (strOfNums x1.xs))]) S tys tys_ok 1 (by kernel_rfl) ?_
          clear S; intro a S
          refine w_go S rfl (op_str (K := _) S rfl ty23 ty9 rfl rfl rfl R1 ?_)
          clear S; intro a S
          refine wl_pure (l' := [(184, .string (strOfNums x1.xs)), (183, .string (strOfNums x1.xs)), (182, v1), (181, .bool true), (180, .bool true), (1, v1), (14, .string (strOfNums x1.xs))]) S tys tys_ok 1 (by kernel_rfl) ?_
          clear S; intro a S
          refine w_go S rfl (op_streq S rfl rfl rfl rfl rfl (R1.byt).1 (R1.byt).1 ?_)
          clear S; intro a S
          refine wl_pure (l' := [(186, .bool (decide (x1.xs = x1.xs))), (185, .bool (decide (x1.xs = x1.xs))), (184, .string (strOfNums x1.xs)), (183, .string (strOfNums x1.xs)), (182, v1), (181, .bool true), (180, .bool true), (1, v1), (14, .string (strOfNums x1.xs))]) S tys tys_ok 1 (by kernel_rfl) ?_
          clear S; intro a S
          obtain rfl := Option.some.inj eq_424
          exact ⟨rfl, S.sub (by exact ⟨rfl, trivial⟩)⟩
        · rw [if_neg hc] at eq_424; rw [show q_422 = false from Bool.eq_false_iff.2 hc] at S
          refine wl_pure (l' := [(186, .bool false), (185, undef), (184, undef), (183, undef), (182, undef), (181, .bool false), (180, .bool false), (1, v1), (14, .string (strOfNums x1.xs))]) S tys tys_ok 5 (by kernel_rfl) ?_
          clear S; intro a S
          obtain rfl := Option.some.inj eq_424
          exact ⟨rfl, S.sub (by exact ⟨rfl, trivial⟩)⟩
      clear S eq_424; rintro a _ ⟨rfl, S⟩
      refine wl_pure (l' := [(187, .bool q_424), (186, .bool q_424)]) S tys tys_ok 1 (by kernel_rfl) ?_
      clear S; intro a S
      obtain ⟨q_425, eq_425, h⟩ := bindS h
      refine seg 2 (fun a_ w_ => St 246 a_ [(189, .bool q_425)] ∧ Wd w w_ [v_25.ownBlock]) ?_ ?_
      · by_cases hc : q_424 = true
        · rw [if_pos hc] at eq_425; rw [hc] at S
          obtain ⟨t_426, et_426, eq_425⟩ := bindS eq_425
          refine w_go S rfl (op_call (vs := []) S rfl cb11 rfl rfl rfl (c11 (Kx K w.heap.size [v_25.ownBlock]) n w_420  et_426) ?_)
          rintro _ w_430 ⟨v_427, rfl, R_428, hb_429⟩; refine ⟨_, rfl, ?_⟩
          replace R_428 := RepV.back R_428 W
          clear S; intro a S
          replace W := W.step hb_429
          obtain rfl := RepV.bool R_428
          refine wl_pure (l' := [(189, .bool t_426), (188, .bool t_426), (187, .bool true), (186, .bool true)]) S tys tys_ok 1 (by kernel_rfl) ?_
          clear S; intro a S
          obtain rfl := Option.some.inj eq_425
          exact ⟨S.sub (by exact ⟨rfl, trivial⟩), W⟩
        · rw [if_neg hc] at eq_425; rw [show q_424 = false from Bool.eq_false_iff.2 hc] at S
          refine wl_pure (l' := [(189, .bool false), (188, undef), (187, .bool false), (186, .bool false)]) S tys tys_ok 2 (by kernel_rfl) ?_
          clear S; intro a S
          obtain rfl := Option.some.inj eq_425
          exact ⟨S.sub (by exact ⟨rfl, trivial⟩), W⟩
      clear S W eq_425; rintro a w_431 ⟨S, W⟩
      refine wl_pure (l' := [(4, .bool q_425), (189, .bool q_425)]) S tys tys_ok 1 (by kernel_rfl) ?_
      clear S; intro a S
      refine wpList_nil ?_
      refine then_n ?_
      replace S := S.sub (l' := [(4, .bool q_425)]) (by exact ⟨rfl, trivial⟩)
      refine wp_ret ?_
      refine then_r ?_
      obtain rfl := Option.some.inj h
      exact b_ret1 S rfl rfl ⟨_, rfl, RepV.mkBool, W.below⟩
    · intro hc
      rw [if_neg (Bool.eq_false_iff.1 hc)] at h
      refine wp_skip ?_
      refine then_n ?_
      replace S := S.sub (l' := [(1, v1), (11, v_375), (12, .int .i64 t_374.2), (14, .string (strOfNums x1.xs)), (16, .int .i64 y_389.2)]) (by exact ⟨rfl, rfl, rfl, rfl, rfl, trivial⟩)
      refine wp_seq ?_
      refine wp_region_lit ?_
      refine wl_pure (l' := [(17, .string (strOfNums ([]))), (1, v1), (11, v_375), (12, .int .i64 t_374.2), (14, .string (strOfNums x1.xs)), (16, .int .i64 y_389.2)]) S tys tys_ok 1 (by kernel_rfl) ?_
      clear S; intro a S
      refine wpList_nil ?_
      refine then_n ?_
      refine wp_seq ?_
      refine wp_seq ?_
      refine wp_region_lit ?_
      refine wl_pure (l' := [(18, .int .i64 0), (17, .string (strOfNums ([]))), (1, v1), (11, v_375), (12, .int .i64 t_374.2), (14, .string (strOfNums x1.xs)), (16, .int .i64 y_389.2)]) S tys tys_ok 1 (by kernel_rfl) ?_
      clear S; intro a S
      refine wpList_nil ?_
      refine then_n ?_
      obtain ⟨y_440, ey_440, h⟩ := bindS h
      refine wp_cut_ (fun a_ w_ => ∃ s_441 : (List Int), y_440 = .inl s_441 ∧ (St 246 a_ [(1, v1), (11, v_375), (12, .int .i64 t_374.2), (14, .string (strOfNums x1.xs)), (16, .int .i64 y_389.2), (17, .string (strOfNums s_441))] ∧ Wd w w_ [v_25.ownBlock] ∧ (Byt s_441 ∧ (s_441).length ≤ 9223372036854775807) ∧ RepV (.sl (.int .u8)) w_ (Kx K w.heap.size [v_25.ownBlock]) v1 x1 ∧ RepV (.sl (.sl (.int .u8))) w_ (Kx K w.heap.size [v_25.ownBlock]) v_375 t_374.1)) ?_ ?_
      · refine wp_block ?_
        refine wp_loop_n (fun m_ a_ w_ => ∃ (c_432 : Int) (c_434 : List Int) , St 246 a_ [(18, .int .i64 c_432), (17, .string (strOfNums c_434)), (1, v1), (11, v_375), (12, .int .i64 t_374.2), (14, .string (strOfNums x1.xs)), (16, .int .i64 y_389.2)] ∧ Wd w w_ [v_25.ownBlock] ∧ InR .i64 c_432 ∧ (Byt c_434 ∧ (c_434).length ≤ 9223372036854775807) ∧ RepV (.sl (.int .u8)) w_ (Kx K w.heap.size [v_25.ownBlock]) v1 x1 ∧ RepV (.sl (.sl (.int .u8))) w_ (Kx K w.heap.size [v_25.ownBlock]) v_375 t_374.1 ∧ p3_l5 n t_374 m_ c_432 c_434 = some y_440) n ?_ ?_
        · skip
          exact ⟨0, [], ⟨S.sub (by exact ⟨rfl, rfl, rfl, rfl, rfl, rfl, rfl, trivial⟩), W, (by decide), (strG ([]) (by decide) (by decide)), R1, R_377, ey_440⟩⟩
        · clear S W; rintro m_443 a w_445 ⟨c_432, c_434, S, W, G_433, G_435, R1, R_377, hl_444⟩
          cases m_443 with
          | zero => exact absurd hl_444 (by simp [p3_l5])
          | succ m_443 =>
            refine ⟨m_443, rfl, ?_⟩
            rw [p3_l5] at hl_444
            refine wp_seq ?_
            refine wp_seq ?_
            refine wp_region_lit ?_
            refine wl_pure (l' := [(191, v_375), (190, .int .i64 c_432), (18, .int .i64 c_432), (17, .string (strOfNums c_434)), (1, v1), (11, v_375), (12, .int .i64 t_374.2), (14, .string (strOfNums x1.xs)), (16, .int .i64 y_389.2)]) S tys tys_ok 2 (by kernel_rfl) ?_
            clear S; intro a S
            refine w_go S rfl (op_len (K := _) S rfl ty27 rfl rfl rfl R_377 ?_)
            clear S; intro a G_446 S
            refine wl_pure (l' := [(193, .bool (decide (c_432 < (lenI t_374.1)))), (192, .int .i64 (lenI t_374.1)), (191, v_375), (190, .int .i64 c_432), (18, .int .i64 c_432), (17, .string (strOfNums c_434)), (1, v1), (11, v_375), (12, .int .i64 t_374.2), (14, .string (strOfNums x1.xs)), (16, .int .i64 y_389.2)]) S tys tys_ok 1 (by kernel_rfl) ?_
            clear S; intro a S
            refine wpList_nil ?_
            refine then_n ?_
            replace S := S.sub (l' := [(193, .bool (decide (c_432 < (lenI t_374.1)))), (18, .int .i64 c_432), (17, .string (strOfNums c_434)), (1, v1), (11, v_375), (12, .int .i64 t_374.2), (14, .string (strOfNums x1.xs)), (16, .int .i64 y_389.2)]) (by exact ⟨rfl, rfl, rfl, rfl, rfl, rfl, rfl, rfl, trivial⟩)
            refine wp_cond_split (S.eval (show ev _ _ = some (.bool (decide (c_432 < (lenI t_374.1)))) from rfl)) ?_ ?_
            · intro hc
              rw [if_pos hc] at hl_444
              refine wp_skip ?_
              refine then_n ?_
              replace S := S.sub (l' := [(18, .int .i64 c_432), (17, .string (strOfNums c_434)), (1, v1), (11, v_375), (12, .int .i64 t_374.2), (14, .string (strOfNums x1.xs)), (16, .int .i64 y_389.2)]) (by exact ⟨rfl, rfl, rfl, rfl, rfl, rfl, rfl, trivial⟩)
              refine wp_seq ?_
              refine wp_block ?_
              refine wp_seq ?_
              refine wp_seq ?_
              obtain ⟨y_447, ey_447, hl_444⟩ := bindS hl_444
              obtain ⟨q_454, eq_454, hl_444⟩ := bindS hl_444
              obtain ⟨y_456, y_462, y_468, HG_455⟩ : ∃ (y_456 : Sl (Int)) (y_462 : Int) (y_468 : Sl (Int)) , ((decide ((lenI y_447) < 2)) = false → (idx t_374.1.xs c_432) = some y_456 ∧ (idx y_456.xs 0) = some y_462 ∧ (idx t_374.1.xs c_432) = some y_468 ∧ (y_462 != (lenI y_468)) = q_454) ∧ (¬ (decide ((lenI y_447) < 2)) = false → true = q_454) := by
                by_cases hc : (decide ((lenI y_447) < 2)) = false
                · rw [if_pos hc] at eq_454
                  obtain ⟨y_456, ey_456, eq_454⟩ := bindS eq_454
                  obtain ⟨y_462, ey_462, eq_454⟩ := bindS eq_454
                  obtain ⟨y_468, ey_468, eq_454⟩ := bindS eq_454
                  exact ⟨y_456, y_462, y_468, ⟨fun _ => ⟨ey_456, ey_462, ey_468, Option.some.inj eq_454⟩, fun k_ => absurd hc k_⟩⟩
                · rw [if_neg hc] at eq_454
                  exact ⟨default, default, default, ⟨fun k_ => absurd k_ hc, fun _ => Option.some.inj eq_454⟩⟩
              have hR : Rel (Kx K w.heap.size [v_25.ownBlock]) Bl := Bl.rel _
              refine wp_region_all hR [isRep (.sl (.sl (.int .u8))) (Kx K w.heap.size [v_25.ownBlock]) t_374.1, isI .i64 c_432, isEl (.sl (.int .u8)) (Kx K w.heap.size [v_25.ownBlock]) y_447, isRep (.sl (.int .u8)) (Kx K w.heap.size [v_25.ownBlock]) y_447, isI .i64 (lenI y_447), eqv (.bool (decide ((lenI y_447) < 2))), eqv (.bool (decide ((lenI y_447) < 2))), cndF (decide ((lenI y_447) < 2)) false (isRep (.sl (.sl (.int .u8))) (Kx K w.heap.size [v_25.ownBlock]) t_374.1), cndF (decide ((lenI y_447) < 2)) false (isI .i64 c_432), cndF (decide ((lenI y_447) < 2)) false (isEl (.sl (.int .u8)) (Kx K w.heap.size [v_25.ownBlock]) y_456), cndF (decide ((lenI y_447) < 2)) false (isRep (.sl (.int .u8)) (Kx K w.heap.size [v_25.ownBlock]) y_456), cndF (decide ((lenI y_447) < 2)) false (isEl (.int .u8) (Kx K w.heap.size [v_25.ownBlock]) y_462), cndF (decide ((lenI y_447) < 2)) false (isI .u8 y_462), cndF (decide ((lenI y_447) < 2)) false (isI .i64 y_462), cndF (decide ((lenI y_447) < 2)) false (isRep (.sl (.sl (.int .u8))) (Kx K w.heap.size [v_25.ownBlock]) t_374.1), cndF (decide ((lenI y_447) < 2)) false (isI .i64 c_432), cndF (decide ((lenI y_447) < 2)) false (isEl (.sl (.int .u8)) (Kx K w.heap.size [v_25.ownBlock]) y_468), cndF (decide ((lenI y_447) < 2)) false (isRep (.sl (.int .u8)) (Kx K w.heap.size [v_25.ownBlock]) y_468), cndF (decide ((lenI y_447) < 2)) false (isI .i64 (lenI y_468)), cndF (decide ((lenI y_447) < 2)) false (eqv (.bool (y_462 != (lenI y_468)))), eqv (.bool q_454)] [[], [], [(0, 196), (1, 197)], [(2, 198)], [(3, 199)], [(4, 200)], [(5, 201)], [(6, 202)], [(6, 202)], [(7, 203), (8, 204), (6, 202)], [(9, 205), (6, 202)], [(10, 206), (6, 202)], [(11, 207), (6, 202)], [(12, 208), (6, 202)], [(6, 202)], [(6, 202)], [(14, 210), (15, 211), (6, 202)], [(16, 212), (6, 202)], [(17, 213), (6, 202)], [(13, 209), (18, 214), (6, 202)], [(6, 202), (19, 215)]] (by kernel_rfl) (by rw [S.size]; kernel_rfl) (by kernel_rfl) (by kernel_rfl) rfl ⟨(stab_rep hR), stab_I, (stab_el hR), (stab_rep hR), stab_I, (stab_eqv _), (stab_eqv _), (stab_cnd (stab_rep hR)), (stab_cnd stab_I), (stab_cnd (stab_el hR)), (stab_cnd (stab_rep hR)), (stab_cnd (stab_el hR)), (stab_cnd stab_I), (stab_cnd stab_I), (stab_cnd (stab_rep hR)), (stab_cnd stab_I), (stab_cnd (stab_el hR)), (stab_cnd (stab_rep hR)), (stab_cnd stab_I), (stab_cnd (stab_eqv _)), (stab_eqv _), trivial⟩ ?_ ?_
              ·
                refine RunAll.cons (isRep (.sl (.sl (.int .u8))) (Kx K w.heap.size [v_25.ownBlock]) t_374.1) [] rfl rfl ?_ ?_
                · intro W_ hW
                  have S1 := S
                  refine fill_nil S1 ?_; clear S1; intro a_ S1
                  replace R_377 := R_377.step hW
                  have S0 := S.defers; replace S := S1; clear S1
                  refine wl_pure (l' := [(196, v_375), (18, .int .i64 c_432), (17, .string (strOfNums c_434)), (1, v1), (11, v_375), (12, .int .i64 t_374.2), (14, .string (strOfNums x1.xs)), (16, .int .i64 y_389.2)]) S tys tys_ok 1 (by kernel_rfl) ?_; clear S; intro a S
                  refine wpList_nil ?_
                  exact RPost.mk_ S rfl S0 R_377 (Below.refl _ _)
                refine RunAll.cons (isI .i64 c_432) [] rfl rfl ?_ ?_
                · intro W_ hW
                  have S1 := S
                  refine fill_nil S1 ?_; clear S1; intro a_ S1
                  have S0 := S.defers; replace S := S1; clear S1
                  refine wl_pure (l' := [(197, .int .i64 c_432), (18, .int .i64 c_432), (17, .string (strOfNums c_434)), (1, v1), (11, v_375), (12, .int .i64 t_374.2), (14, .string (strOfNums x1.xs)), (16, .int .i64 y_389.2)]) S tys tys_ok 1 (by kernel_rfl) ?_; clear S; intro a S
                  refine wpList_nil ?_
                  exact RPost.mk_ S rfl S0 ⟨rfl, G_433⟩ (Below.refl _ _)
                refine RunAll.cons (isEl (.sl (.int .u8)) (Kx K w.heap.size [v_25.ownBlock]) y_447) [(isRep (.sl (.sl (.int .u8))) (Kx K w.heap.size [v_25.ownBlock]) t_374.1, 196), (isI .i64 c_432, 197)] rfl rfl ?_ ?_
                · intro W_ hW
                  have S1 := S
                  intro v_476 hF_475; replace hF_475 : RepV _ _ _ _ _ := hF_475
                  replace S1 := S1.put (by decide : 196 < 246) (v_476)
                  rintro _ ⟨rfl, hF_477⟩
                  replace S1 := S1.put (by decide : 197 < 246) (.int .i64 c_432)
                  refine fill_nil S1 ?_; clear S1; intro a_ S1
                  replace W := W.step hW
                  have S0 := S.defers; replace S := S1; clear S1
                  refine w_go S rfl (op_indexAddr S rfl ty27 rfl rfl rfl hF_475 rfl ey_447 ?_)
                  clear S; intro a p_479 R_480 H_481 S
                  refine wpList_nil ?_
                  exact RPost.mk_ S rfl S0 ⟨_, rfl, R_480, H_481⟩ (Below.refl _ _)
                refine RunAll.cons (isRep (.sl (.int .u8)) (Kx K w.heap.size [v_25.ownBlock]) y_447) [(isEl (.sl (.int .u8)) (Kx K w.heap.size [v_25.ownBlock]) y_447, 198)] rfl rfl ?_ ?_
                · intro W_ hW
                  have S1 := S
                  rintro _ ⟨p_484, rfl, R_485, H_486⟩
                  replace S1 := S1.put (by decide : 198 < 246) (.pointer (some p_484))
                  refine fill_nil S1 ?_; clear S1; intro a_ S1
                  have S0 := S.defers; replace S := S1; clear S1
                  refine w_go S rfl (op_load (t := (.sl (.int .u8))) (x := y_447) S rfl ty23 rfl rfl rfl R_485 ?_)
                  clear S; intro a v_487 R_488 S
                  refine wpList_nil ?_
                  exact RPost.mk_ S rfl S0 R_488 (Below.refl _ _)
                refine RunAll.cons (isI .i64 (lenI y_447)) [(isRep (.sl (.int .u8)) (Kx K w.heap.size [v_25.ownBlock]) y_447, 199)] rfl rfl ?_ ?_
                · intro W_ hW
                  have S1 := S
                  intro v_490 hF_489; replace hF_489 : RepV _ _ _ _ _ := hF_489
                  replace S1 := S1.put (by decide : 199 < 246) (v_490)
                  refine fill_nil S1 ?_; clear S1; intro a_ S1
                  replace W := W.step hW
                  have S0 := S.defers; replace S := S1; clear S1
                  refine w_go S rfl (op_len (K := _) S rfl ty23 rfl rfl rfl hF_489 ?_)
                  clear S; intro a G_491 S
                  refine wpList_nil ?_
                  exact RPost.mk_ S rfl S0 ⟨rfl, G_491⟩ (Below.refl _ _)
                refine RunAll.cons (eqv (.bool (decide ((lenI y_447) < 2)))) [(isI .i64 (lenI y_447), 200)] rfl rfl ?_ ?_
                · intro W_ hW
                  have S1 := S
                  rintro _ ⟨rfl, hF_492⟩
                  replace S1 := S1.put (by decide : 200 < 246) (.int .i64 (lenI y_447))
                  refine fill_nil S1 ?_; clear S1; intro a_ S1
                  have S0 := S.defers; replace S := S1; clear S1
                  refine wl_pure (l' := [(201, .bool (decide ((lenI y_447) < 2))), (200, .int .i64 (lenI y_447)), (18, .int .i64 c_432), (17, .string (strOfNums c_434)), (1, v1), (11, v_375), (12, .int .i64 t_374.2), (14, .string (strOfNums x1.xs)), (16, .int .i64 y_389.2)]) S tys tys_ok 1 (by kernel_rfl) ?_; clear S; intro a S
                  refine wpList_nil ?_
                  exact RPost.mk_ S rfl S0 rfl (Below.refl _ _)
                refine RunAll.cons (eqv (.bool (decide ((lenI y_447) < 2)))) [(eqv (.bool (decide ((lenI y_447) < 2))), 201)] rfl rfl ?_ ?_
                · intro W_ hW
                  have S1 := S
                  intro v_495 hF_494; obtain rfl : .bool (decide ((lenI y_447) < 2)) = v_495 := Eq.symm hF_494
                  replace S1 := S1.put (by decide : 201 < 246) (.bool (decide ((lenI y_447) < 2)))
                  refine fill_nil S1 ?_; clear S1; intro a_ S1
                  have S0 := S.defers; replace S := S1; clear S1
                  refine wl_pure (l' := [(202, .bool (decide ((lenI y_447) < 2))), (201, .bool (decide ((lenI y_447) < 2))), (18, .int .i64 c_432), (17, .string (strOfNums c_434)), (1, v1), (11, v_375), (12, .int .i64 t_374.2), (14, .string (strOfNums x1.xs)), (16, .int .i64 y_389.2)]) S tys tys_ok 1 (by kernel_rfl) ?_; clear S; intro a S
                  refine wpList_nil ?_
                  exact RPost.mk_ S rfl S0 rfl (Below.refl _ _)
                refine RunAll.cons (cndF (decide ((lenI y_447) < 2)) false (isRep (.sl (.sl (.int .u8))) (Kx K w.heap.size [v_25.ownBlock]) t_374.1)) [(eqv (.bool (decide ((lenI y_447) < 2))), 202)] rfl rfl ?_ ?_
                · intro W_ hW
                  by_cases hc0 : (decide ((lenI y_447) < 2)) = false
                  · have hl0 : (decide ((lenI y_447) < 2)) = false := hc0
                    have S1 := S
                    intro v_497 hF_496; obtain rfl : .bool (decide ((lenI y_447) < 2)) = v_497 := Eq.symm hF_496
                    replace S1 := S1.put (by decide : 202 < 246) (.bool (decide ((lenI y_447) < 2)))
                    refine fill_nil S1 ?_; clear S1; intro a_ S1
                    replace R_377 := R_377.step hW
                    rw [show (decide ((lenI y_447) < 2)) = false from hl0] at S1
                    have S0 := S.defers; replace S := S1; clear S1
                    refine wl_pure (l' := [(203, v_375), (202, .bool false), (18, .int .i64 c_432), (17, .string (strOfNums c_434)), (1, v1), (11, v_375), (12, .int .i64 t_374.2), (14, .string (strOfNums x1.xs)), (16, .int .i64 y_389.2)]) S tys tys_ok 1 (by kernel_rfl) ?_; clear S; intro a S
                    refine wpList_nil ?_
                    exact RPost.mk_ S rfl S0 ⟨fun _ => R_377, fun k_ => absurd hc0 k_⟩ (Below.refl _ _)
                  · have hl0 : (decide ((lenI y_447) < 2)) = true := (by simpa using hc0)
                    have S1 := S
                    intro v_499 hF_498; obtain rfl : .bool (decide ((lenI y_447) < 2)) = v_499 := Eq.symm hF_498
                    replace S1 := S1.put (by decide : 202 < 246) (.bool (decide ((lenI y_447) < 2)))
                    refine fill_nil S1 ?_; clear S1; intro a_ S1
                    rw [show (decide ((lenI y_447) < 2)) = true from hl0] at S1
                    have S0 := S.defers; replace S := S1; clear S1
                    refine wl_pure (l' := [(203, undef), (202, .bool true), (18, .int .i64 c_432), (17, .string (strOfNums c_434)), (1, v1), (11, v_375), (12, .int .i64 t_374.2), (14, .string (strOfNums x1.xs)), (16, .int .i64 y_389.2)]) S tys tys_ok 1 (by kernel_rfl) ?_; clear S; intro a S
                    refine wpList_nil ?_
                    exact RPost.mk_ S rfl S0 ⟨fun k_ => absurd k_ hc0, fun _ => rfl⟩ (Below.refl _ _)
                refine RunAll.cons (cndF (decide ((lenI y_447) < 2)) false (isI .i64 c_432)) [(eqv (.bool (decide ((lenI y_447) < 2))), 202)] rfl rfl ?_ ?_
                · intro W_ hW
                  by_cases hc0 : (decide ((lenI y_447) < 2)) = false
                  · have hl0 : (decide ((lenI y_447) < 2)) = false := hc0
                    have S1 := S
                    intro v_501 hF_500; obtain rfl : .bool (decide ((lenI y_447) < 2)) = v_501 := Eq.symm hF_500
                    replace S1 := S1.put (by decide : 202 < 246) (.bool (decide ((lenI y_447) < 2)))
                    refine fill_nil S1 ?_; clear S1; intro a_ S1
                    rw [show (decide ((lenI y_447) < 2)) = false from hl0] at S1
                    have S0 := S.defers; replace S := S1; clear S1
                    refine wl_pure (l' := [(204, .int .i64 c_432), (202, .bool false), (18, .int .i64 c_432), (17, .string (strOfNums c_434)), (1, v1), (11, v_375), (12, .int .i64 t_374.2), (14, .string (strOfNums x1.xs)), (16, .int .i64 y_389.2)]) S tys tys_ok 1 (by kernel_rfl) ?_; clear S; intro a S
                    refine wpList_nil ?_
                    exact RPost.mk_ S rfl S0 ⟨fun _ => ⟨rfl, G_433⟩, fun k_ => absurd hc0 k_⟩ (Below.refl _ _)
                  · have hl0 : (decide ((lenI y_447) < 2)) = true := (by simpa using hc0)
                    have S1 := S
                    intro v_503 hF_502; obtain rfl : .bool (decide ((lenI y_447) < 2)) = v_503 := Eq.symm hF_502
                    replace S1 := S1.put (by decide : 202 < 246) (.bool (decide ((lenI y_447) < 2)))
                    refine fill_nil S1 ?_; clear S1; intro a_ S1
                    rw [show (decide ((lenI y_447) < 2)) = true from hl0] at S1
                    have S0 := S.defers; replace S := S1; clear S1
                    refine wl_pure (l' := [(204, undef), (202, .bool true), (18, .int .i64 c_432), (17, .string (strOfNums c_434)), (1, v1), (11, v_375), (12, .int .i64 t_374.2), (14, .string (strOfNums x1.xs)), (16, .int .i64 y_389.2)]) S tys tys_ok 1 (by kernel_rfl) ?_; clear S; intro a S
                    refine wpList_nil ?_
                    exact RPost.mk_ S rfl S0 ⟨fun k_ => absurd k_ hc0, fun _ => rfl⟩ (Below.refl _ _)
                refine RunAll.cons (cndF (decide ((lenI y_447) < 2)) false (isEl (.sl (.int .u8)) (Kx K w.heap.size [v_25.ownBlock]) y_456)) [(cndF (decide ((lenI y_447) < 2)) false (isRep (.sl (.sl (.int .u8))) (Kx K w.heap.size [v_25.ownBlock]) t_374.1), 203), (cndF (decide ((lenI y_447) < 2)) false (isI .i64 c_432), 204), (eqv (.bool (decide ((lenI y_447) < 2))), 202)] rfl rfl ?_ ?_
                · intro W_ hW
                  by_cases hc0 : (decide ((lenI y_447) < 2)) = false
                  · have hl0 : (decide ((lenI y_447) < 2)) = false := hc0
                    have S1 := S
                    intro v_504 hF_505
                    replace hF_505 := cndF.pos hF_505 hc0
                    revert hF_505
                    revert v_504
                    intro v_507 hF_506; replace hF_506 : RepV _ _ _ _ _ := hF_506
                    replace S1 := S1.put (by decide : 203 < 246) (v_507)
                    intro v_508 hF_509
                    replace hF_509 := cndF.pos hF_509 hc0
                    revert hF_509
                    revert v_508
                    rintro _ ⟨rfl, hF_510⟩
                    replace S1 := S1.put (by decide : 204 < 246) (.int .i64 c_432)
                    intro v_513 hF_512; obtain rfl : .bool (decide ((lenI y_447) < 2)) = v_513 := Eq.symm hF_512
                    replace S1 := S1.put (by decide : 202 < 246) (.bool (decide ((lenI y_447) < 2)))
                    refine fill_nil S1 ?_; clear S1; intro a_ S1
                    replace W := W.step hW
                    rw [show (decide ((lenI y_447) < 2)) = false from hl0] at S1
                    have S0 := S.defers; replace S := S1; clear S1
                    obtain ⟨ey_456, ey_462, ey_468, _⟩ := (HG_455).1 hc0
                    refine w_go S rfl (op_indexAddr S rfl ty27 rfl rfl rfl hF_506 rfl ey_456 ?_)
                    clear S; intro a p_514 R_515 H_516 S
                    refine wpList_nil ?_
                    exact RPost.mk_ S rfl S0 ⟨fun _ => ⟨_, rfl, R_515, H_516⟩, fun k_ => absurd hc0 k_⟩ (Below.refl _ _)
                  · have hl0 : (decide ((lenI y_447) < 2)) = true := (by simpa using hc0)
                    have S1 := S
                    intro v_517 hF_518
                    obtain rfl := cndF.neg hF_518 hc0
                    replace S1 := S1.put (by decide : 203 < 246) (undef)
                    intro v_519 hF_520
                    obtain rfl := cndF.neg hF_520 hc0
                    replace S1 := S1.put (by decide : 204 < 246) (undef)
                    intro v_522 hF_521; obtain rfl : .bool (decide ((lenI y_447) < 2)) = v_522 := Eq.symm hF_521
                    replace S1 := S1.put (by decide : 202 < 246) (.bool (decide ((lenI y_447) < 2)))
                    refine fill_nil S1 ?_; clear S1; intro a_ S1
                    rw [show (decide ((lenI y_447) < 2)) = true from hl0] at S1
                    have S0 := S.defers; replace S := S1; clear S1
                    refine wl_pure (l' := [(205, undef), (202, .bool true), (204, undef), (203, undef), (18, .int .i64 c_432), (17, .string (strOfNums c_434)), (1, v1), (11, v_375), (12, .int .i64 t_374.2), (14, .string (strOfNums x1.xs)), (16, .int .i64 y_389.2)]) S tys tys_ok 1 (by kernel_rfl) ?_; clear S; intro a S
                    refine wpList_nil ?_
                    exact RPost.mk_ S rfl S0 ⟨fun k_ => absurd k_ hc0, fun _ => rfl⟩ (Below.refl _ _)
                refine RunAll.cons (cndF (decide ((lenI y_447) < 2)) false (isRep (.sl (.int .u8)) (Kx K w.heap.size [v_25.ownBlock]) y_456)) [(cndF (decide ((lenI y_447) < 2)) false (isEl (.sl (.int .u8)) (Kx K w.heap.size [v_25.ownBlock]) y_456), 205), (eqv (.bool (decide ((lenI y_447) < 2))), 202)] rfl rfl ?_ ?_
                · intro W_ hW
                  by_cases hc0 : (decide ((lenI y_447) < 2)) = false
                  · have hl0 : (decide ((lenI y_447) < 2)) = false := hc0
                    have S1 := S
                    intro v_523 hF_524
                    replace hF_524 := cndF.pos hF_524 hc0
                    revert hF_524
                    revert v_523
                    rintro _ ⟨p_527, rfl, R_528, H_529⟩
                    replace S1 := S1.put (by decide : 205 < 246) (.pointer (some p_527))
                    intro v_531 hF_530; obtain rfl : .bool (decide ((lenI y_447) < 2)) = v_531 := Eq.symm hF_530
                    replace S1 := S1.put (by decide : 202 < 246) (.bool (decide ((lenI y_447) < 2)))
                    refine fill_nil S1 ?_; clear S1; intro a_ S1
                    rw [show (decide ((lenI y_447) < 2)) = false from hl0] at S1
                    have S0 := S.defers; replace S := S1; clear S1
                    obtain ⟨ey_456, ey_462, ey_468, _⟩ := (HG_455).1 hc0
                    refine w_go S rfl (op_load (t := (.sl (.int .u8))) (x := y_456) S rfl ty23 rfl rfl rfl R_528 ?_)
                    clear S; intro a v_532 R_533 S
                    refine wpList_nil ?_
                    exact RPost.mk_ S rfl S0 ⟨fun _ => R_533, fun k_ => absurd hc0 k_⟩ (Below.refl _ _)
                  · have hl0 : (decide ((lenI y_447) < 2)) = true := (by simpa using hc0)
                    have S1 := S
                    intro v_534 hF_535
                    obtain rfl := cndF.neg hF_535 hc0
                    replace S1 := S1.put (by decide : 205 < 246) (undef)
                    intro v_537 hF_536; obtain rfl : .bool (decide ((lenI y_447) < 2)) = v_537 := Eq.symm hF_536
                    replace S1 := S1.put (by decide : 202 < 246) (.bool (decide ((lenI y_447) < 2)))
                    refine fill_nil S1 ?_; clear S1; intro a_ S1
                    rw [show (decide ((lenI y_447) < 2)) = true from hl0] at S1
                    have S0 := S.defers; replace S := S1; clear S1
                    refine wl_pure (l' := [(206, undef), (202, .bool true), (205, undef), (18, .int .i64 c_432), (17, .string (strOfNums c_434)), (1, v1), (11, v_375), (12, .int .i64 t_374.2), (14, .string (strOfNums x1.xs)), (16, .int .i64 y_389.2)]) S tys tys_ok 1 (by kernel_rfl) ?_; clear S; intro a S
                    refine wpList_nil ?_
                    exact RPost.mk_ S rfl S0 ⟨fun k_ => absurd k_ hc0, fun _ => rfl⟩ (Below.refl _ _)
                refine RunAll.cons (cndF (decide ((lenI y_447) < 2)) false (isEl (.int .u8) (Kx K w.heap.size [v_25.ownBlock]) y_462)) [(cndF (decide ((lenI y_447) < 2)) false (isRep (.sl (.int .u8)) (Kx K w.heap.size [v_25.ownBlock]) y_456), 206), (eqv (.bool (decide ((lenI y_447) < 2))), 202)] rfl rfl ?_ ?_
                · intro W_ hW
                  by_cases hc0 : (decide ((lenI y_447) < 2)) = false
                  · have hl0 : (decide ((lenI y_447) < 2)) = false := hc0
                    have S1 := S
                    intro v_538 hF_539
                    replace hF_539 := cndF.pos hF_539 hc0
                    revert hF_539
                    revert v_538
                    intro v_541 hF_540; replace hF_540 : RepV _ _ _ _ _ := hF_540
                    replace S1 := S1.put (by decide : 206 < 246) (v_541)
                    intro v_543 hF_542; obtain rfl : .bool (decide ((lenI y_447) < 2)) = v_543 := Eq.symm hF_542
                    replace S1 := S1.put (by decide : 202 < 246) (.bool (decide ((lenI y_447) < 2)))
                    refine fill_nil S1 ?_; clear S1; intro a_ S1
                    replace W := W.step hW
                    rw [show (decide ((lenI y_447) < 2)) = false from hl0] at S1
                    have S0 := S.defers; replace S := S1; clear S1
                    obtain ⟨ey_456, ey_462, ey_468, _⟩ := (HG_455).1 hc0
                    refine w_go S rfl (op_indexAddr S rfl ty23 rfl rfl rfl hF_540 rfl ey_462 ?_)
                    clear S; intro a p_544 R_545 H_546 S
                    refine wpList_nil ?_
                    exact RPost.mk_ S rfl S0 ⟨fun _ => ⟨_, rfl, R_545, H_546⟩, fun k_ => absurd hc0 k_⟩ (Below.refl _ _)
                  · have hl0 : (decide ((lenI y_447) < 2)) = true := (by simpa using hc0)
                    have S1 := S
                    intro v_547 hF_548
                    obtain rfl := cndF.neg hF_548 hc0
                    replace S1 := S1.put (by decide : 206 < 246) (undef)
                    intro v_550 hF_549; obtain rfl : .bool (decide ((lenI y_447) < 2)) = v_550 := Eq.symm hF_549
                    replace S1 := S1.put (by decide : 202 < 246) (.bool (decide ((lenI y_447) < 2)))
                    refine fill_nil S1 ?_; clear S1; intro a_ S1
                    rw [show (decide ((lenI y_447) < 2)) = true from hl0] at S1
                    have S0 := S.defers; replace S := S1; clear S1
                    refine wl_pure (l' := [(207, undef), (202, .bool true), (206, undef), (18, .int .i64 c_432), (17, .string (strOfNums c_434)), (1, v1), (11, v_375), (12, .int .i64 t_374.2), (14, .string (strOfNums x1.xs)), (16, .int .i64 y_389.2)]) S tys tys_ok 1 (by kernel_rfl) ?_; clear S; intro a S
                    refine wpList_nil ?_
                    exact RPost.mk_ S rfl S0 ⟨fun k_ => absurd k_ hc0, fun _ => rfl⟩ (Below.refl _ _)
                refine RunAll.cons (cndF (decide ((lenI y_447) < 2)) false (isI .u8 y_462)) [(cndF (decide ((lenI y_447) < 2)) false (isEl (.int .u8) (Kx K w.heap.size [v_25.ownBlock]) y_462), 207), (eqv (.bool (decide ((lenI y_447) < 2))), 202)] rfl rfl ?_ ?_
                · intro W_ hW
                  by_cases hc0 : (decide ((lenI y_447) < 2)) = false
                  · have hl0 : (decide ((lenI y_447) < 2)) = false := hc0
                    have S1 := S
                    intro v_551 hF_552
                    replace hF_552 := cndF.pos hF_552 hc0
                    revert hF_552
                    revert v_551
                    rintro _ ⟨p_555, rfl, R_556, H_557⟩
                    replace S1 := S1.put (by decide : 207 < 246) (.pointer (some p_555))
                    intro v_559 hF_558; obtain rfl : .bool (decide ((lenI y_447) < 2)) = v_559 := Eq.symm hF_558
                    replace S1 := S1.put (by decide : 202 < 246) (.bool (decide ((lenI y_447) < 2)))
                    refine fill_nil S1 ?_; clear S1; intro a_ S1
                    rw [show (decide ((lenI y_447) < 2)) = false from hl0] at S1
                    have S0 := S.defers; replace S := S1; clear S1
                    obtain ⟨ey_456, ey_462, ey_468, _⟩ := (HG_455).1 hc0
                    refine w_go S rfl (op_load (t := (.int .u8)) (x := y_462) S rfl ty5 rfl rfl rfl R_556 ?_)
                    clear S; intro a v_560 R_561 S
                    obtain ⟨rfl, GR_561⟩ := RepV.int R_561
                    refine wpList_nil ?_
                    exact RPost.mk_ S rfl S0 ⟨fun _ => ⟨rfl, GR_561⟩, fun k_ => absurd hc0 k_⟩ (Below.refl _ _)
                  · have hl0 : (decide ((lenI y_447) < 2)) = true := (by simpa using hc0)
                    have S1 := S
                    intro v_562 hF_563
                    obtain rfl := cndF.neg hF_563 hc0
                    replace S1 := S1.put (by decide : 207 < 246) (undef)
                    intro v_565 hF_564; obtain rfl : .bool (decide ((lenI y_447) < 2)) = v_565 := Eq.symm hF_564
                    replace S1 := S1.put (by decide : 202 < 246) (.bool (decide ((lenI y_447) < 2)))
                    refine fill_nil S1 ?_; clear S1; intro a_ S1
                    rw [show (decide ((lenI y_447) < 2)) = true from hl0] at S1
                    have S0 := S.defers; replace S := S1; clear S1
                    refine wl_pure (l' := [(208, undef), (202, .bool true), (207, undef), (18, .int .i64 c_432), (17, .string (strOfNums c_434)), (1, v1), (11, v_375), (12, .int .i64 t_374.2), (14, .string (strOfNums x1.xs)), (16, .int .i64 y_389.2)]) S tys tys_ok 1 (by kernel_rfl) ?_; clear S; intro a S
                    refine wpList_nil ?_
                    exact RPost.mk_ S rfl S0 ⟨fun k_ => absurd k_ hc0, fun _ => rfl⟩ (Below.refl _ _)
                refine RunAll.cons (cndF (decide ((lenI y_447) < 2)) false (isI .i64 y_462)) [(cndF (decide ((lenI y_447) < 2)) false (isI .u8 y_462), 208), (eqv (.bool (decide ((lenI y_447) < 2))), 202)] rfl rfl ?_ ?_
                · intro W_ hW
                  by_cases hc0 : (decide ((lenI y_447) < 2)) = false
                  · have hl0 : (decide ((lenI y_447) < 2)) = false := hc0
                    have S1 := S
                    intro v_566 hF_567
                    replace hF_567 := cndF.pos hF_567 hc0
                    revert hF_567
                    revert v_566
                    rintro _ ⟨rfl, hF_568⟩
                    replace S1 := S1.put (by decide : 208 < 246) (.int .u8 y_462)
                    intro v_571 hF_570; obtain rfl : .bool (decide ((lenI y_447) < 2)) = v_571 := Eq.symm hF_570
                    replace S1 := S1.put (by decide : 202 < 246) (.bool (decide ((lenI y_447) < 2)))
                    refine fill_nil S1 ?_; clear S1; intro a_ S1
                    replace W := W.step hW
                    rw [show (decide ((lenI y_447) < 2)) = false from hl0] at S1
                    have S0 := S.defers; replace S := S1; clear S1
                    obtain ⟨ey_456, ey_462, ey_468, _⟩ := (HG_455).1 hc0
                    refine w_go S rfl (op_conv S .i64 .bool .bool rfl ty5 ty3 rfl rfl rfl (widen hF_568 (by decide)).1 ?_)
                    clear S; intro a S
                    refine wpList_nil ?_
                    exact RPost.mk_ S rfl S0 ⟨fun _ => ⟨rfl, (widen hF_568 (by decide)).2⟩, fun k_ => absurd hc0 k_⟩ (Below.refl _ _)
                  · have hl0 : (decide ((lenI y_447) < 2)) = true := (by simpa using hc0)
                    have S1 := S
                    intro v_572 hF_573
                    obtain rfl := cndF.neg hF_573 hc0
                    replace S1 := S1.put (by decide : 208 < 246) (undef)
                    intro v_575 hF_574; obtain rfl : .bool (decide ((lenI y_447) < 2)) = v_575 := Eq.symm hF_574
                    replace S1 := S1.put (by decide : 202 < 246) (.bool (decide ((lenI y_447) < 2)))
                    refine fill_nil S1 ?_; clear S1; intro a_ S1
                    rw [show (decide ((lenI y_447) < 2)) = true from hl0] at S1
                    have S0 := S.defers; replace S := S1; clear S1
                    refine wl_pure (l' := [(209, undef), (202, .bool true), (208, undef), (18, .int .i64 c_432), (17, .string (strOfNums c_434)), (1, v1), (11, v_375), (12, .int .i64 t_374.2), (14, .string (strOfNums x1.xs)), (16, .int .i64 y_389.2)]) S tys tys_ok 1 (by kernel_rfl) ?_; clear S; intro a S
                    refine wpList_nil ?_
                    exact RPost.mk_ S rfl S0 ⟨fun k_ => absurd k_ hc0, fun _ => rfl⟩ (Below.refl _ _)
                refine RunAll.cons (cndF (decide ((lenI y_447) < 2)) false (isRep (.sl (.sl (.int .u8))) (Kx K w.heap.size [v_25.ownBlock]) t_374.1)) [(eqv (.bool (decide ((lenI y_447) < 2))), 202)] rfl rfl ?_ ?_
                · intro W_ hW
                  by_cases hc0 : (decide ((lenI y_447) < 2)) = false
                  · have hl0 : (decide ((lenI y_447) < 2)) = false := hc0
                    have S1 := S
                    intro v_577 hF_576; obtain rfl : .bool (decide ((lenI y_447) < 2)) = v_577 := Eq.symm hF_576
                    replace S1 := S1.put (by decide : 202 < 246) (.bool (decide ((lenI y_447) < 2)))
                    refine fill_nil S1 ?_; clear S1; intro a_ S1
                    replace R_377 := R_377.step hW
                    rw [show (decide ((lenI y_447) < 2)) = false from hl0] at S1
                    have S0 := S.defers; replace S := S1; clear S1
                    refine wl_pure (l' := [(210, v_375), (202, .bool false), (18, .int .i64 c_432), (17, .string (strOfNums c_434)), (1, v1), (11, v_375), (12, .int .i64 t_374.2), (14, .string (strOfNums x1.xs)), (16, .int .i64 y_389.2)]) S tys tys_ok 1 (by kernel_rfl) ?_; clear S; intro a S
                    refine wpList_nil ?_
                    exact RPost.mk_ S rfl S0 ⟨fun _ => R_377, fun k_ => absurd hc0 k_⟩ (Below.refl _ _)
                  · have hl0 : (decide ((lenI y_447) < 2)) = true := (by simpa using hc0)
                    have S1 := S
                    intro v_579 hF_578; obtain rfl : .bool (decide ((lenI y_447) < 2)) = v_579 := Eq.symm hF_578
                    replace S1 := S1.put (by decide : 202 < 246) (.bool (decide ((lenI y_447) < 2)))
                    refine fill_nil S1 ?_; clear S1; intro a_ S1
                    rw [show (decide ((lenI y_447) < 2)) = true from hl0] at S1
                    have S0 := S.defers; replace S := S1; clear S1
                    refine wl_pure (l' := [(210, undef), (202, .bool true), (18, .int .i64 c_432), (17, .string (strOfNums c_434)), (1, v1), (11, v_375), (12, .int .i64 t_374.2), (14, .string (strOfNums x1.xs)), (16, .int .i64 y_389.2)]) S tys tys_ok 1 (by kernel_rfl) ?_; clear S; intro a S
                    refine wpList_nil ?_
                    exact RPost.mk_ S rfl S0 ⟨fun k_ => absurd k_ hc0, fun _ => rfl⟩ (Below.refl _ _)
                refine RunAll.cons (cndF (decide ((lenI y_447) < 2)) false (isI .i64 c_432)) [(eqv (.bool (decide ((lenI y_447) < 2))), 202)] rfl rfl ?_ ?_
                · intro W_ hW
                  by_cases hc0 : (decide ((lenI y_447) < 2)) = false
                  · have hl0 : (decide ((lenI y_447) < 2)) = false := hc0
                    have S1 := S
                    intro v_581 hF_580; obtain rfl : .bool (decide ((lenI y_447) < 2)) = v_581 := Eq.symm hF_580
                    replace S1 := S1.put (by decide : 202 < 246) (.bool (decide ((lenI y_447) < 2)))
                    refine fill_nil S1 ?_; clear S1; intro a_ S1
                    rw [show (decide ((lenI y_447) < 2)) = false from hl0] at S1
                    have S0 := S.defers; replace S := S1; clear S1
                    refine wl_pure (l' := [(211, .int .i64 c_432), (202, .bool false), (18, .int .i64 c_432), (17, .string (strOfNums c_434)), (1, v1), (11, v_375), (12, .int .i64 t_374.2), (14, .string (strOfNums x1.xs)), (16, .int .i64 y_389.2)]) S tys tys_ok 1 (by kernel_rfl) ?_; clear S; intro a S
                    refine wpList_nil ?_
                    exact RPost.mk_ S rfl S0 ⟨fun _ => ⟨rfl, G_433⟩, fun k_ => absurd hc0 k_⟩ (Below.refl _ _)
                  · have hl0 : (decide ((lenI y_447) < 2)) = true := (by simpa using hc0)
                    have S1 := S
                    intro v_583 hF_582; obtain rfl : .bool (decide ((lenI y_447) < 2)) = v_583 := Eq.symm hF_582
                    replace S1 := S1.put (by decide : 202 < 246) (.bool (decide ((lenI y_447) < 2)))
                    refine fill_nil S1 ?_; clear S1; intro a_ S1
                    rw [show (decide ((lenI y_447) < 2)) = true from hl0] at S1
                    have S0 := S.defers; replace S := S1; clear S1
                    refine wl_pure (l' := [(211, undef), (202, .bool true), (18, .int .i64 c_432), (17, .string (strOfNums c_434)), (1, v1), (11, v_375), (12, .int .i64 t_374.2), (14, .string (strOfNums x1.xs)), (16, .int .i64 y_389.2)]) S tys tys_ok 1 (by kernel_rfl) ?_; clear S; intro a S
                    refine wpList_nil ?_
                    exact RPost.mk_ S rfl S0 ⟨fun k_ => absurd k_ hc0, fun _ => rfl⟩ (Below.refl _ _)
                refine RunAll.cons (cndF (decide ((lenI y_447) < 2)) false (isEl (.sl (.int .u8)) (Kx K w.heap.size [v_25.ownBlock]) y_468)) [(cndF (decide ((lenI y_447) < 2)) false (isRep (.sl (.sl (.int .u8))) (Kx K w.heap.size [v_25.ownBlock]) t_374.1), 210), (cndF (decide ((lenI y_447) < 2)) false (isI .i64 c_432), 211), (eqv (.bool (decide ((lenI y_447) < 2))), 202)] rfl rfl ?_ ?_
                · intro W_ hW
                  by_cases hc0 : (decide ((lenI y_447) < 2)) = false
                  · have hl0 : (decide ((lenI y_447) < 2)) = false := hc0
                    have S1 := S
                    intro v_584 hF_585
                    replace hF_585 := cndF.pos hF_585 hc0
                    revert hF_585
                    revert v_584
                    intro v_587 hF_586; replace hF_586 : RepV _ _ _ _ _ := hF_586
                    replace S1 := S1.put (by decide : 210 < 246) (v_587)
                    intro v_588 hF_589
                    replace hF_589 := cndF.pos hF_589 hc0
                    revert hF_589
                    revert v_588
                    rintro _ ⟨rfl, hF_590⟩
                    replace S1 := S1.put (by decide : 211 < 246) (.int .i64 c_432)
                    intro v_593 hF_592; obtain rfl : .bool (decide ((lenI y_447) < 2)) = v_593 := Eq.symm hF_592
                    replace S1 := S1.put (by decide : 202 < 246) (.bool (decide ((lenI y_447) < 2)))
                    refine fill_nil S1 ?_; clear S1; intro a_ S1
                    replace W := W.step hW
                    rw [show (decide ((lenI y_447) < 2)) = false from hl0] at S1
                    have S0 := S.defers; replace S := S1; clear S1
                    obtain ⟨ey_456, ey_462, ey_468, _⟩ := (HG_455).1 hc0
                    refine w_go S rfl (op_indexAddr S rfl ty27 rfl rfl rfl hF_586 rfl ey_468 ?_)
                    clear S; intro a p_594 R_595 H_596 S
                    refine wpList_nil ?_
                    exact RPost.mk_ S rfl S0 ⟨fun _ => ⟨_, rfl, R_595, H_596⟩, fun k_ => absurd hc0 k_⟩ (Below.refl _ _)
                  · have hl0 : (decide ((lenI y_447) < 2)) = true := (by simpa using hc0)
                    have S1 := S
                    intro v_597 hF_598
                    obtain rfl := cndF.neg hF_598 hc0
                    replace S1 := S1.put (by decide : 210 < 246) (undef)
                    intro v_599 hF_600
                    obtain rfl := cndF.neg hF_600 hc0
                    replace S1 := S1.put (by decide : 211 < 246) (undef)
                    intro v_602 hF_601; obtain rfl : .bool (decide ((lenI y_447) < 2)) = v_602 := Eq.symm hF_601
                    replace S1 := S1.put (by decide : 202 < 246) (.bool (decide ((lenI y_447) < 2)))
                    refine fill_nil S1 ?_; clear S1; intro a_ S1
                    rw [show (decide ((lenI y_447) < 2)) = true from hl0] at S1
                    have S0 := S.defers; replace S := S1; clear S1
                    refine wl_pure (l' := [(212, undef), (202, .bool true), (211, undef), (210, undef), (18, .int .i64 c_432), (17, .string (strOfNums c_434)), (1, v1), (11, v_375), (12, .int .i64 t_374.2), (14, .string (strOfNums x1.xs)), (16, .int .i64 y_389.2)]) S tys tys_ok 1 (by kernel_rfl) ?_; clear S; intro a S
                    refine wpList_nil ?_
                    exact RPost.mk_ S rfl S0 ⟨fun k_ => absurd k_ hc0, fun _ => rfl⟩ (Below.refl _ _)
                refine RunAll.cons (cndF (decide ((lenI y_447) < 2)) false (isRep (.sl (.int .u8)) (Kx K w.heap.size [v_25.ownBlock]) y_468)) [(cndF (decide ((lenI y_447) < 2)) false (isEl (.sl (.int .u8)) (Kx K w.heap.size [v_25.ownBlock]) y_468), 212), (eqv (.bool (decide ((lenI y_447) < 2))), 202)] rfl rfl ?_ ?_
                · intro W_ hW
                  by_cases hc0 : (decide ((lenI y_447) < 2)) = false
                  · have hl0 : (decide ((lenI y_447) < 2)) = false := hc0
                    have S1 := S
                    intro v_603 hF_604
                    replace hF_604 := cndF.pos hF_604 hc0
                    revert hF_604
                    revert v_603
                    rintro _ ⟨p_607, rfl, R_608, H_609⟩
                    replace S1 := S1.put (by decide : 212 < 246) (.pointer (some p_607))
                    intro v_611 hF_610; obtain rfl : .bool (decide ((lenI y_447) < 2)) = v_611 := Eq.symm hF_610
                    replace S1 := S1.put (by decide : 202 < 246) (.bool (decide ((lenI y_447) < 2)))
                    refine fill_nil S1 ?_; clear S1; intro a_ S1
                    rw [show (decide ((lenI y_447) < 2)) = false from hl0] at S1
                    have S0 := S.defers; replace S := S1; clear S1
                    obtain ⟨ey_456, ey_462, ey_468, _⟩ := (HG_455).1 hc0
                    refine w_go S rfl (op_load (t := (.sl (.int .u8))) (x := y_468) S rfl ty23 rfl rfl rfl R_608 ?_)
                    clear S; intro a v_612 R_613 S
                    refine wpList_nil ?_
                    exact RPost.mk_ S rfl S0 ⟨fun _ => R_613, fun k_ => absurd hc0 k_⟩ (Below.refl _ _)
                  · have hl0 : (decide ((lenI y_447) < 2)) = true := (by simpa using hc0)
                    have S1 := S
                    intro v_614 hF_615
                    obtain rfl := cndF.neg hF_615 hc0
                    replace S1 := S1.put (by decide : 212 < 246) (undef)
                    intro v_617 hF_616; obtain rfl : .bool (decide ((lenI y_447) < 2)) = v_617 := Eq.symm hF_616
                    replace S1 := S1.put (by decide : 202 < 246) (.bool (decide ((lenI y_447) < 2)))
                    refine fill_nil S1 ?_; clear S1; intro a_ S1
                    rw [show (decide ((lenI y_447) < 2)) = true from hl0] at S1
                    have S0 := S.defers; replace S := S1; clear S1
                    refine wl_pure (l' := [(213, undef), (202, .bool true), (212, undef), (18, .int .i64 c_432), (17, .string (strOfNums c_434)), (1, v1), (11, v_375), (12, .int .i64 t_374.2), (14, .string (strOfNums x1.xs)), (16, .int .i64 y_389.2)]) S tys tys_ok 1 (by kernel_rfl) ?_; clear S; intro a S
                    refine wpList_nil ?_
                    exact RPost.mk_ S rfl S0 ⟨fun k_ => absurd k_ hc0, fun _ => rfl⟩ (Below.refl _ _)
                refine RunAll.cons (cndF (decide ((lenI y_447) < 2)) false (isI .i64 (lenI y_468))) [(cndF (decide ((lenI y_447) < 2)) false (isRep (.sl (.int .u8)) (Kx K w.heap.size [v_25.ownBlock]) y_468), 213), (eqv (.bool (decide ((lenI y_447) < 2))), 202)] rfl rfl ?_ ?_
                · intro W_ hW
                  by_cases hc0 : (decide ((lenI y_447) < 2)) = false
                  · have hl0 : (decide ((lenI y_447) < 2)) = false := hc0
                    have S1 := S
                    intro v_618 hF_619
                    replace hF_619 := cndF.pos hF_619 hc0
                    revert hF_619
                    revert v_618
                    intro v_621 hF_620; replace hF_620 : RepV _ _ _ _ _ := hF_620
                    replace S1 := S1.put (by decide : 213 < 246) (v_621)
                    intro v_623 hF_622; obtain rfl : .bool (decide ((lenI y_447) < 2)) = v_623 := Eq.symm hF_622
                    replace S1 := S1.put (by decide : 202 < 246) (.bool (decide ((lenI y_447) < 2)))
                    refine fill_nil S1 ?_; clear S1; intro a_ S1
                    replace W := W.step hW
                    rw [show (decide ((lenI y_447) < 2)) = false from hl0] at S1
                    have S0 := S.defers; replace S := S1; clear S1
                    obtain ⟨ey_456, ey_462, ey_468, _⟩ := (HG_455).1 hc0
                    refine w_go S rfl (op_len (K := _) S rfl ty23 rfl rfl rfl hF_620 ?_)
                    clear S; intro a G_624 S
                    refine wpList_nil ?_
                    exact RPost.mk_ S rfl S0 ⟨fun _ => ⟨rfl, G_624⟩, fun k_ => absurd hc0 k_⟩ (Below.refl _ _)
                  · have hl0 : (decide ((lenI y_447) < 2)) = true := (by simpa using hc0)
                    have S1 := S
                    intro v_625 hF_626
                    obtain rfl := cndF.neg hF_626 hc0
                    replace S1 := S1.put (by decide : 213 < 246) (undef)
                    intro v_628 hF_627; obtain rfl : .bool (decide ((lenI y_447) < 2)) = v_628 := Eq.symm hF_627
                    replace S1 := S1.put (by decide : 202 < 246) (.bool (decide ((lenI y_447) < 2)))
                    refine fill_nil S1 ?_; clear S1; intro a_ S1
                    rw [show (decide ((lenI y_447) < 2)) = true from hl0] at S1
                    have S0 := S.defers; replace S := S1; clear S1
                    refine wl_pure (l' := [(214, undef), (202, .bool true), (213, undef), (18, .int .i64 c_432), (17, .string (strOfNums c_434)), (1, v1), (11, v_375), (12, .int .i64 t_374.2), (14, .string (strOfNums x1.xs)), (16, .int .i64 y_389.2)]) S tys tys_ok 1 (by kernel_rfl) ?_; clear S; intro a S
                    refine wpList_nil ?_
                    exact RPost.mk_ S rfl S0 ⟨fun k_ => absurd k_ hc0, fun _ => rfl⟩ (Below.refl _ _)
                refine RunAll.cons (cndF (decide ((lenI y_447) < 2)) false (eqv (.bool (y_462 != (lenI y_468))))) [(cndF (decide ((lenI y_447) < 2)) false (isI .i64 y_462), 209), (cndF (decide ((lenI y_447) < 2)) false (isI .i64 (lenI y_468)), 214), (eqv (.bool (decide ((lenI y_447) < 2))), 202)] rfl rfl ?_ ?_
                · intro W_ hW
                  by_cases hc0 : (decide ((lenI y_447) < 2)) = false
                  · have hl0 : (decide ((lenI y_447) < 2)) = false := hc0
                    have S1 := S
                    intro v_629 hF_630
                    replace hF_630 := cndF.pos hF_630 hc0
                    revert hF_630
                    revert v_629
                    rintro _ ⟨rfl, hF_631⟩
                    replace S1 := S1.put (by decide : 209 < 246) (.int .i64 y_462)
                    intro v_633 hF_634
                    replace hF_634 := cndF.pos hF_634 hc0
                    revert hF_634
                    revert v_633
                    rintro _ ⟨rfl, hF_635⟩
                    replace S1 := S1.put (by decide : 214 < 246) (.int .i64 (lenI y_468))
                    intro v_638 hF_637; obtain rfl : .bool (decide ((lenI y_447) < 2)) = v_638 := Eq.symm hF_637
                    replace S1 := S1.put (by decide : 202 < 246) (.bool (decide ((lenI y_447) < 2)))
                    refine fill_nil S1 ?_; clear S1; intro a_ S1
                    rw [show (decide ((lenI y_447) < 2)) = false from hl0] at S1
                    have S0 := S.defers; replace S := S1; clear S1
                    refine wl_pure (l' := [(215, .bool (y_462 != (lenI y_468))), (202, .bool false), (214, .int .i64 (lenI y_468)), (209, .int .i64 y_462), (18, .int .i64 c_432), (17, .string (strOfNums c_434)), (1, v1), (11, v_375), (12, .int .i64 t_374.2), (14, .string (strOfNums x1.xs)), (16, .int .i64 y_389.2)]) S tys tys_ok 1 (by kernel_rfl) ?_; clear S; intro a S
                    refine wpList_nil ?_
                    exact RPost.mk_ S rfl S0 ⟨fun _ => rfl, fun k_ => absurd hc0 k_⟩ (Below.refl _ _)
                  · have hl0 : (decide ((lenI y_447) < 2)) = true := (by simpa using hc0)
                    have S1 := S
                    intro v_639 hF_640
                    obtain rfl := cndF.neg hF_640 hc0
                    replace S1 := S1.put (by decide : 209 < 246) (undef)
                    intro v_641 hF_642
                    obtain rfl := cndF.neg hF_642 hc0
                    replace S1 := S1.put (by decide : 214 < 246) (undef)
                    intro v_644 hF_643; obtain rfl : .bool (decide ((lenI y_447) < 2)) = v_644 := Eq.symm hF_643
                    replace S1 := S1.put (by decide : 202 < 246) (.bool (decide ((lenI y_447) < 2)))
                    refine fill_nil S1 ?_; clear S1; intro a_ S1
                    rw [show (decide ((lenI y_447) < 2)) = true from hl0] at S1
                    have S0 := S.defers; replace S := S1; clear S1
                    refine wl_pure (l' := [(215, undef), (202, .bool true), (214, undef), (209, undef), (18, .int .i64 c_432), (17, .string (strOfNums c_434)), (1, v1), (11, v_375), (12, .int .i64 t_374.2), (14, .string (strOfNums x1.xs)), (16, .int .i64 y_389.2)]) S tys tys_ok 1 (by kernel_rfl) ?_; clear S; intro a S
                    refine wpList_nil ?_
                    exact RPost.mk_ S rfl S0 ⟨fun k_ => absurd k_ hc0, fun _ => rfl⟩ (Below.refl _ _)
                refine RunAll.cons (eqv (.bool q_454)) [(eqv (.bool (decide ((lenI y_447) < 2))), 202), (cndF (decide ((lenI y_447) < 2)) false (eqv (.bool (y_462 != (lenI y_468)))), 215)] rfl rfl ?_ ?_
                · intro W_ hW
                  by_cases hc0 : (decide ((lenI y_447) < 2)) = false
                  · have hl0 : (decide ((lenI y_447) < 2)) = false := hc0
                    have S1 := S
                    intro v_646 hF_645; obtain rfl : .bool (decide ((lenI y_447) < 2)) = v_646 := Eq.symm hF_645
                    replace S1 := S1.put (by decide : 202 < 246) (.bool (decide ((lenI y_447) < 2)))
                    intro v_647 hF_648
                    replace hF_648 := cndF.pos hF_648 hc0
                    revert hF_648
                    revert v_647
                    intro v_650 hF_649; obtain rfl : .bool (y_462 != (lenI y_468)) = v_650 := Eq.symm hF_649
                    replace S1 := S1.put (by decide : 215 < 246) (.bool (y_462 != (lenI y_468)))
                    refine fill_nil S1 ?_; clear S1; intro a_ S1
                    rw [show (decide ((lenI y_447) < 2)) = false from hl0] at S1
                    have S0 := S.defers; replace S := S1; clear S1
                    refine wl_pure (l' := [(216, .bool (y_462 != (lenI y_468))), (215, .bool (y_462 != (lenI y_468))), (202, .bool false), (18, .int .i64 c_432), (17, .string (strOfNums c_434)), (1, v1), (11, v_375), (12, .int .i64 t_374.2), (14, .string (strOfNums x1.xs)), (16, .int .i64 y_389.2)]) S tys tys_ok 1 (by kernel_rfl) ?_; clear S; intro a S
                    refine wpList_nil ?_
                    exact RPost.mk_ S rfl S0 (congrArg Value.bool ((HG_455).1 hc0).2.2.2) (Below.refl _ _)
                  · have hl0 : (decide ((lenI y_447) < 2)) = true := (by simpa using hc0)
                    have S1 := S
                    intro v_652 hF_651; obtain rfl : .bool (decide ((lenI y_447) < 2)) = v_652 := Eq.symm hF_651
                    replace S1 := S1.put (by decide : 202 < 246) (.bool (decide ((lenI y_447) < 2)))
                    intro v_653 hF_654
                    obtain rfl := cndF.neg hF_654 hc0
                    replace S1 := S1.put (by decide : 215 < 246) (undef)
                    refine fill_nil S1 ?_; clear S1; intro a_ S1
                    rw [show (decide ((lenI y_447) < 2)) = true from hl0] at S1
                    have S0 := S.defers; replace S := S1; clear S1
                    refine wl_pure (l' := [(216, .bool true), (215, undef), (202, .bool true), (18, .int .i64 c_432), (17, .string (strOfNums c_434)), (1, v1), (11, v_375), (12, .int .i64 t_374.2), (14, .string (strOfNums x1.xs)), (16, .int .i64 y_389.2)]) S tys tys_ok 1 (by kernel_rfl) ?_; clear S; intro a S
                    refine wpList_nil ?_
                    exact RPost.mk_ S rfl S0 (congrArg Value.bool ((HG_455).2 hc0)) (Below.refl _ _)
                exact trivial
              intro w_655 hb_656
              refine EndE.some_ rfl ?_
              intro v_658 hF_657; replace hF_657 : RepV _ _ _ _ _ := hF_657
              replace S := S.put (by decide : 196 < 246) (v_658)
              refine EndE.some_ rfl ?_
              rintro _ ⟨rfl, hF_659⟩
              replace S := S.put (by decide : 197 < 246) (.int .i64 c_432)
              refine EndE.some_ rfl ?_
              rintro _ ⟨p_663, rfl, R_664, H_665⟩
              replace S := S.put (by decide : 198 < 246) (.pointer (some p_663))
              refine EndE.some_ rfl ?_
              intro v_667 hF_666; replace hF_666 : RepV _ _ _ _ _ := hF_666
              replace S := S.put (by decide : 199 < 246) (v_667)
              refine EndE.some_ rfl ?_
              rintro _ ⟨rfl, hF_668⟩
              replace S := S.put (by decide : 200 < 246) (.int .i64 (lenI y_447))
              refine EndE.some_ rfl ?_
              intro v_671 hF_670; obtain rfl : .bool (decide ((lenI y_447) < 2)) = v_671 := Eq.symm hF_670
              replace S := S.put (by decide : 201 < 246) (.bool (decide ((lenI y_447) < 2)))
              refine EndE.some_ rfl ?_
              intro v_673 hF_672; obtain rfl : .bool (decide ((lenI y_447) < 2)) = v_673 := Eq.symm hF_672
              replace S := S.put (by decide : 202 < 246) (.bool (decide ((lenI y_447) < 2)))
              refine EndE.some_ rfl ?_
              intro v_674 _
              replace S := S.put (by decide : 203 < 246) (v_674)
              refine EndE.some_ rfl ?_
              intro v_675 _
              replace S := S.put (by decide : 204 < 246) (v_675)
              refine EndE.some_ rfl ?_
              intro v_676 _
              replace S := S.put (by decide : 205 < 246) (v_676)
              refine EndE.some_ rfl ?_
              intro v_677 _
              replace S := S.put (by decide : 206 < 246) (v_677)
              refine EndE.some_ rfl ?_
              intro v_678 _
              replace S := S.put (by decide : 207 < 246) (v_678)
              refine EndE.some_ rfl ?_
              intro v_679 _
              replace S := S.put (by decide : 208 < 246) (v_679)
              refine EndE.some_ rfl ?_
              intro v_680 _
              replace S := S.put (by decide : 209 < 246) (v_680)
              refine EndE.some_ rfl ?_
              intro v_681 _
              replace S := S.put (by decide : 210 < 246) (v_681)
              refine EndE.some_ rfl ?_
              intro v_682 _
              replace S := S.put (by decide : 211 < 246) (v_682)
              refine EndE.some_ rfl ?_
              intro v_683 _
              replace S := S.put (by decide : 212 < 246) (v_683)
              refine EndE.some_ rfl ?_
              intro v_684 _
              replace S := S.put (by decide : 213 < 246) (v_684)
              refine EndE.some_ rfl ?_
              intro v_685 _
              replace S := S.put (by decide : 214 < 246) (v_685)
              refine EndE.some_ rfl ?_
              intro v_686 _
              replace S := S.put (by decide : 215 < 246) (v_686)
              refine EndE.some_ rfl ?_
              intro v_688 hF_687; obtain rfl : .bool q_454 = v_688 := Eq.symm hF_687
              replace S := S.put (by decide : 216 < 246) (.bool q_454)
              refine endE_nil S ?_; clear S; intro a S
              replace R1 := R1.step hb_656
              replace R_377 := R_377.step hb_656
              replace W := W.step hb_656
              refine then_n ?_
              replace S := S.sub (l' := [(216, .bool q_454), (18, .int .i64 c_432), (17, .string (strOfNums c_434)), (1, v1), (11, v_375), (12, .int .i64 t_374.2), (14, .string (strOfNums x1.xs)), (16, .int .i64 y_389.2)]) (by exact ⟨rfl, rfl, rfl, rfl, rfl, rfl, rfl, rfl, trivial⟩)
              refine wp_cond_split (S.eval (show ev _ _ = some (.bool q_454) from rfl)) ?_ ?_
              · intro hc
                rw [if_pos hc] at hl_444
                refine wp_seq ?_
                refine wp_region_lit ?_
                refine wl_pure (l' := [(4, .bool false), (216, .bool q_454), (18, .int .i64 c_432), (17, .string (strOfNums c_434)), (1, v1), (11, v_375), (12, .int .i64 t_374.2), (14, .string (strOfNums x1.xs)), (16, .int .i64 y_389.2)]) S tys tys_ok 1 (by kernel_rfl) ?_
                clear S; intro a S
                refine wpList_nil ?_
                refine then_n ?_
                replace S := S.sub (l' := [(4, .bool false)]) (by exact ⟨rfl, trivial⟩)
                refine wp_ret ?_
                refine then_r ?_
                refine blk_r ?_
                refine then_r ?_
                refine then_r ?_
                refine blk_r ?_
                refine then_r ?_
                refine then_r ?_
                obtain rfl := Option.some.inj hl_444
                obtain rfl := lr_inr h
                exact b_ret1 S rfl rfl ⟨_, rfl, RepV.mkBool, W.below⟩
              · intro hc
                rw [if_neg (Bool.eq_false_iff.1 hc)] at hl_444
                refine wp_skip ?_
                refine then_n ?_
                replace S := S.sub (l' := [(18, .int .i64 c_432), (17, .string (strOfNums c_434)), (1, v1), (11, v_375), (12, .int .i64 t_374.2), (14, .string (strOfNums x1.xs)), (16, .int .i64 y_389.2)]) (by exact ⟨rfl, rfl, rfl, rfl, rfl, rfl, rfl, trivial⟩)
                refine wp_region_lit ?_
                refine wl_pure (l' := [(219, .int .i64 c_432), (218, v_375), (217, .string (strOfNums c_434)), (18, .int .i64 c_432), (17, .string (strOfNums c_434)), (1, v1), (11, v_375), (12, .int .i64 t_374.2), (14, .string (strOfNums x1.xs)), (16, .int .i64 y_389.2)]) S tys tys_ok 3 (by kernel_rfl) ?_
                clear S; intro a S
                obtain ⟨y_689, ey_689, hl_444⟩ := bindS hl_444
                refine w_go S rfl (op_indexAddr S rfl ty27 rfl rfl rfl R_377 rfl ey_689 ?_)
                clear S; intro a p_690 R_691 H_692 S
                refine w_go S rfl (op_load (t := (.sl (.int .u8))) (x := y_689) S rfl ty23 rfl rfl rfl R_691 ?_)
                clear S; intro a v_693 R_694 S
                refine w_go S rfl (op_str (K := _) S rfl ty23 ty9 rfl rfl rfl R_694 ?_)
                clear S; intro a S
                obtain ⟨s_695, es_695, hl_444⟩ := bindS hl_444
                refine w_go S rfl (op_cat S rfl rfl rfl rfl rfl es_695 ?_)
                clear S; intro a S
                refine wl_pure (l' := [(17, .string (strOfNums s_695)), (223, .string (strOfNums s_695)), (222, .string (strOfNums y_689.xs)), (221, v_693), (220, .pointer (some p_690)), (219, .int .i64 c_432), (218, v_375), (217, .string (strOfNums c_434)), (18, .int .i64 c_432), (17, .string (strOfNums c_434)), (1, v1), (11, v_375), (12, .int .i64 t_374.2), (14, .string (strOfNums x1.xs)), (16, .int .i64 y_389.2)]) S tys tys_ok 1 (by kernel_rfl) ?_
                clear S; intro a S
                refine wpList_nil ?_
                refine blk_n ?_
                refine then_n ?_
                replace S := S.sub (l' := [(17, .string (strOfNums s_695)), (18, .int .i64 c_432), (1, v1), (11, v_375), (12, .int .i64 t_374.2), (14, .string (strOfNums x1.xs)), (16, .int .i64 y_389.2)]) (by exact ⟨rfl, rfl, rfl, rfl, rfl, rfl, rfl, trivial⟩)
                refine wp_region_lit ?_
                refine wl_pure (l' := [(194, .int .i64 c_432), (17, .string (strOfNums s_695)), (18, .int .i64 c_432), (1, v1), (11, v_375), (12, .int .i64 t_374.2), (14, .string (strOfNums x1.xs)), (16, .int .i64 y_389.2)]) S tys tys_ok 1 (by kernel_rfl) ?_
                clear S; intro a S
                obtain ⟨x_696, ex_696, hl_444⟩ := bindS hl_444
                refine w_go S rfl (op_arith S .i64 (c_432 + 1) rfl (.inl rfl) rfl rfl rfl rfl ex_696 ?_)
                clear S; intro a S
                refine wl_pure (l' := [(18, .int .i64 x_696), (195, .int .i64 x_696), (194, .int .i64 c_432), (17, .string (strOfNums s_695)), (18, .int .i64 c_432), (1, v1), (11, v_375), (12, .int .i64 t_374.2), (14, .string (strOfNums x1.xs)), (16, .int .i64 y_389.2)]) S tys tys_ok 1 (by kernel_rfl) ?_
                clear S; intro a S
                refine wpList_nil ?_
                refine then_n ?_
                exact ⟨x_696, s_695, ⟨S.sub (by exact ⟨rfl, rfl, rfl, rfl, rfl, rfl, rfl, trivial⟩), W, (ckI_some ex_696).2.1, (catS_ok G_435 R_694.byt es_695), R1, R_377, hl_444⟩⟩
            · intro hc
              rw [if_neg (Bool.eq_false_iff.1 hc)] at hl_444
              refine wp_exit ?_
              refine then_x ?_
              refine then_x ?_
              refine blk_hit ?_
              refine then_n ?_
              obtain rfl := Option.some.inj hl_444
              exact ⟨_, rfl, ⟨S.sub (by exact ⟨rfl, rfl, rfl, rfl, rfl, rfl, trivial⟩), W, G_435, R1, R_377⟩⟩
      clear S W; rintro a w_697 ⟨s_441, rfl, S, W, G_442, R1, R_377⟩
      replace h := lr_inl h; try dsimp only at h
      refine then_n ?_
      refine wp_seq ?_
      refine wp_region_lit ?_
      refine wl_pure (l' := [(226, .bool (t_374.2 == 0)), (225, .bool (t_374.2 == 0)), (224, .int .i64 t_374.2), (1, v1), (11, v_375), (12, .int .i64 t_374.2), (14, .string (strOfNums x1.xs)), (16, .int .i64 y_389.2), (17, .string (strOfNums s_441))]) S tys tys_ok 3 (by kernel_rfl) ?_
      clear S; intro a S
      obtain ⟨q_698, eq_698, h⟩ := bindS h
      refine seg 5 (fun a_ w_ => w_697 = w_ ∧ St 246 a_ [(231, .bool q_698), (1, v1), (14, .string (strOfNums x1.xs)), (17, .string (strOfNums s_441))]) ?_ ?_
      · by_cases hc : (t_374.2 == 0) = true
        · rw [if_pos hc] at eq_698; rw [hc] at S
          refine wl_pure (l' := [(227, v_375), (226, .bool true), (225, .bool true), (224, .int .i64 t_374.2), (1, v1), (11, v_375), (12, .int .i64 t_374.2), (14, .string (strOfNums x1.xs)), (16, .int .i64 y_389.2), (17, .string (strOfNums s_441))]) S tys tys_ok 1 (by kernel_rfl) ?_
          clear S; intro a S
          refine w_go S rfl (op_len (K := _) S rfl ty27 rfl rfl rfl R_377 ?_)
          clear S; intro a G_699 S
          refine wl_pure (l' := [(231, .bool ((lenI t_374.1) == y_389.2)), (230, .bool ((lenI t_374.1) == y_389.2)), (229, .int .i64 y_389.2), (228, .int .i64 (lenI t_374.1)), (227, v_375), (226, .bool true), (225, .bool true), (224, .int .i64 t_374.2), (1, v1), (11, v_375), (12, .int .i64 t_374.2), (14, .string (strOfNums x1.xs)), (16, .int .i64 y_389.2), (17, .string (strOfNums s_441))]) S tys tys_ok 3 (by kernel_rfl) ?_
          clear S; intro a S
          obtain rfl := Option.some.inj eq_698
          exact ⟨rfl, S.sub (by exact ⟨rfl, rfl, rfl, rfl, trivial⟩)⟩
        · rw [if_neg hc] at eq_698; rw [show (t_374.2 == 0) = false from Bool.eq_false_iff.2 hc] at S
          refine wl_pure (l' := [(231, .bool false), (230, undef), (229, undef), (228, undef), (227, undef), (226, .bool false), (225, .bool false), (224, .int .i64 t_374.2), (1, v1), (11, v_375), (12, .int .i64 t_374.2), (14, .string (strOfNums x1.xs)), (16, .int .i64 y_389.2), (17, .string (strOfNums s_441))]) S tys tys_ok 5 (by kernel_rfl) ?_
          clear S; intro a S
          obtain rfl := Option.some.inj eq_698
          exact ⟨rfl, S.sub (by exact ⟨rfl, rfl, rfl, rfl, trivial⟩)⟩
      clear S eq_698; rintro a _ ⟨rfl, S⟩
      refine wl_pure (l' := [(232, .bool q_698), (231, .bool q_698), (1, v1), (14, .string (strOfNums x1.xs)), (17, .string (strOfNums s_441))]) S tys tys_ok 1 (by kernel_rfl) ?_
      clear S; intro a S
      obtain ⟨q_700, eq_700, h⟩ := bindS h
      refine seg 4 (fun a_ w_ => w_697 = w_ ∧ St 246 a_ [(236, .bool q_700), (1, v1), (14, .string (strOfNums x1.xs))]) ?_ ?_
      · by_cases hc : q_698 = true
        · rw [if_pos hc] at eq_700; rw [hc] at S
          refine wl_pure (l' := [(234, .string (strOfNums x1.xs)), (233, .string (strOfNums s_441)), (232, .bool true), (231, .bool true), (1, v1), (14, .string (strOfNums x1.xs)), (17, .string (strOfNums s_441))]) S tys tys_ok 2 (by kernel_rfl) ?_
          clear S; intro a S
          refine w_go S rfl (op_streq S rfl rfl rfl rfl rfl (G_442).1 (R1.byt).1 ?_)
          clear S; intro a S
          refine wl_pure (l' := [(236, .bool (decide (s_441 = x1.xs))), (235, .bool (decide (s_441 = x1.xs))), (234, .string (strOfNums x1.xs)), (233, .string (strOfNums s_441)), (232, .bool true), (231, .bool true), (1, v1), (14, .string (strOfNums x1.xs)), (17, .string (strOfNums s_441))]) S tys tys_ok 1 (by kernel_rfl) ?_
          clear S; intro a S
          obtain rfl := Option.some.inj eq_700
          exact ⟨rfl, S.sub (by exact ⟨rfl, rfl, rfl, trivial⟩)⟩
        · rw [if_neg hc] at eq_700; rw [show q_698 = false from Bool.eq_false_iff.2 hc] at S
          refine wl_pure (l' := [(236, .bool false), (235, undef), (234, undef), (233, undef), (232, .bool false), (231, .bool false), (1, v1), (14, .string (strOfNums x1.xs)), (17, .string (strOfNums s_441))]) S tys tys_ok 4 (by kernel_rfl) ?_
          clear S; intro a S
          obtain rfl := Option.some.inj eq_700
          exact ⟨rfl, S.sub (by exact ⟨rfl, rfl, rfl, trivial⟩)⟩
      clear S eq_700; rintro a _ ⟨rfl, S⟩
      refine wl_pure (l' := [(237, .bool q_700), (236, .bool q_700), (1, v1), (14, .string (strOfNums x1.xs))]) S tys tys_ok 1 (by kernel_rfl) ?_
      clear S; intro a S
      obtain ⟨q_701, eq_701, h⟩ := bindS h
      refine seg 5 (fun a_ w_ => w_697 = w_ ∧ St 246 a_ [(242, .bool q_701)]) ?_ ?_
      · by_cases hc : q_700 = true
        · rw [if_pos hc] at eq_701; rw [hc] at S
          refine wl_pure (l' := [(238, v1), (237, .bool true), (236, .bool true), (1, v1), (14, .string (strOfNums x1.xs))]) S tys tys_ok 1 (by kernel_rfl) ?_
          clear S; intro a S
          refine w_go S rfl (op_str (K := _) S rfl ty23 ty9 rfl rfl rfl R1 ?_)
          clear S; intro a S
          refine wl_pure (l' := [(240, .string (strOfNums x1.xs)), (239, .string (strOfNums x1.xs)), (238, v1), (237, .bool true), (236, .bool true), (1, v1), (14, .string (strOfNums x1.xs))]) S tys tys_ok 1 (by kernel_rfl) ?_
          clear S; intro a S
          refine w_go S rfl (op_streq S rfl rfl rfl rfl rfl (R1.byt).1 (R1.byt).1 ?_)
          clear S; intro a S
          refine wl_pure (l' := [(242, .bool (decide (x1.xs = x1.xs))), (241, .bool (decide (x1.xs = x1.xs))), (240, .string (strOfNums x1.xs)), (239, .string (strOfNums x1.xs)), (238, v1), (237, .bool true), (236, .bool true), (1, v1), (14, .string (strOfNums x1.xs))]) S tys tys_ok 1 (by kernel_rfl) ?_
          clear S; intro a S
          obtain rfl := Option.some.inj eq_701
          exact ⟨rfl, S.sub (by exact ⟨rfl, trivial⟩)⟩
        · rw [if_neg hc] at eq_701; rw [show q_700 = false from Bool.eq_false_iff.2 hc] at S
          refine wl_pure (l' := [(242, .bool false), (241, undef), (240, undef), (239, undef), (238, undef), (237, .bool false), (236, .bool false), (1, v1), (14, .string (strOfNums x1.xs))]) S tys tys_ok 5 (by kernel_rfl) ?_
          clear S; intro a S
          obtain rfl := Option.some.inj eq_701
          exact ⟨rfl, S.sub (by exact ⟨rfl, trivial⟩)⟩
      clear S eq_701; rintro a _ ⟨rfl, S⟩
      refine wl_pure (l' := [(243, .bool q_701), (242, .bool q_701)]) S tys tys_ok 1 (by kernel_rfl) ?_
      clear S; intro a S
      obtain ⟨q_702, eq_702, h⟩ := bindS h
      refine seg 2 (fun a_ w_ => St 246 a_ [(245, .bool q_702)] ∧ Wd w w_ [v_25.ownBlock]) ?_ ?_
      · by_cases hc : q_701 = true
        · rw [if_pos hc] at eq_702; rw [hc] at S
          obtain ⟨t_703, et_703, eq_702⟩ := bindS eq_702
          refine w_go S rfl (op_call (vs := []) S rfl cb11 rfl rfl rfl (c11 (Kx K w.heap.size [v_25.ownBlock]) n w_697  et_703) ?_)
          rintro _ w_707 ⟨v_704, rfl, R_705, hb_706⟩; refine ⟨_, rfl, ?_⟩
          replace R_705 := RepV.back R_705 W
          clear S; intro a S
          replace W := W.step hb_706
          obtain rfl := RepV.bool R_705
          refine wl_pure (l' := [(245, .bool t_703), (244, .bool t_703), (243, .bool true), (242, .bool true)]) S tys tys_ok 1 (by kernel_rfl) ?_
          clear S; intro a S
          obtain rfl := Option.some.inj eq_702
          exact ⟨S.sub (by exact ⟨rfl, trivial⟩), W⟩
        · rw [if_neg hc] at eq_702; rw [show q_701 = false from Bool.eq_false_iff.2 hc] at S
          refine wl_pure (l' := [(245, .bool false), (244, undef), (243, .bool false), (242, .bool false)]) S tys tys_ok 2 (by kernel_rfl) ?_
          clear S; intro a S
          obtain rfl := Option.some.inj eq_702
          exact ⟨S.sub (by exact ⟨rfl, trivial⟩), W⟩
      clear S W eq_702; rintro a w_708 ⟨S, W⟩
      refine wl_pure (l' := [(4, .bool q_702), (245, .bool q_702)]) S tys tys_ok 1 (by kernel_rfl) ?_
      clear S; intro a S
      refine wpList_nil ?_
      refine then_n ?_
      replace S := S.sub (l' := [(4, .bool q_702)]) (by exact ⟨rfl, trivial⟩)
      refine wp_ret ?_
      obtain rfl := Option.some.inj h
      exact b_ret1 S rfl rfl ⟨_, rfl, RepV.mkBool, W.below⟩

end Go.Proofs.Ytojifdijcanbpaa
