/- Functions of the program, as plain data. -/
import Derived.Test.YtflieonbbggmhaaP3
set_option linter.unusedVariables false
set_option linter.unusedSimpArgs false
namespace Go.Proofs.Ytflieonbbggmhaa
open Go.RowKit

def p7_l1 (n : Nat)  : Nat → (Int) → (Sl ((Sl (Int)) × Bool × Bool × Bool × Int)) → Option (((Sl ((Sl (Int)) × Bool × Bool × Bool × Int))) ⊕ ((Bool)))
  | 0, _, _ => .none
  | m + 1, c_1, c_3 => if (decide (c_1 < 127)) then ((remI .i64 c_1 7).bind fun x_18 => (if (decide (c_1 ≥ 7)) then ((ckI .i64 (c_1 - 7)).bind fun x_26 => (quoI .i64 x_26 7).bind fun x_27 => (remI .i64 x_27 7).bind fun x_28 => (ckI .i64 (c_1 - 7)).bind fun x_29 => (remI .i64 x_29 7).bind fun x_30 => some (⟨[IntKind.wrap .u8 (1 + (IntKind.wrap .u8 x_28)), IntKind.wrap .u8 (1 + (IntKind.wrap .u8 x_30))], some 2⟩ : Sl (Int))) else some (⟨[IntKind.wrap .u8 (1 + (IntKind.wrap .u8 x_18))], some 1⟩ : Sl (Int))).bind fun (j_23 : (Sl (Int))) => (if (decide (c_1 ≥ 56)) then ((ckI .i64 (c_1 - 56)).bind fun x_39 => (quoI .i64 x_39 49).bind fun x_40 => (ckI .i64 (c_1 - 56)).bind fun x_41 => (quoI .i64 x_41 7).bind fun x_42 => (remI .i64 x_42 7).bind fun x_43 => (ckI .i64 (c_1 - 56)).bind fun x_44 => (remI .i64 x_44 7).bind fun x_45 => some (⟨[IntKind.wrap .u8 (1 + (IntKind.wrap .u8 x_40)), IntKind.wrap .u8 (1 + (IntKind.wrap .u8 x_43)), IntKind.wrap .u8 (1 + (IntKind.wrap .u8 x_45))], some 3⟩ : Sl (Int))) else some j_23).bind fun (j_36 : (Sl (Int))) => (p15 n c_3 j_36 false).bind fun t_51 => (if (t_51.2.2 != 0) = false then (ckI .i64 (c_1 + 1)).bind fun x_62 => some ((lenI t_51.1) != x_62) else some true).bind fun q_60 => (if q_60 = false then some ((lenI t_51.2.1) != 0) else some true).bind fun q_63 => if q_63 then (some (.inr false)) else (ckI .i64 (c_1 + 1)).bind fun x_65 => p7_l1 n m x_65 t_51.1) else some (.inl c_3)
def p7 (n : Nat) (x0 : Int) : Option ((Bool)) :=
  (p7_l1 n n 0 (⟨[], some 0⟩)).bind fun (y_11 : ((Sl ((Sl (Int)) × Bool × Bool × Bool × Int))) ⊕ ((Bool))) =>
  lrK y_11 some fun (s_12 : (Sl ((Sl (Int)) × Bool × Bool × Bool × Int))) =>
  (p15 n s_12 (⟨[7, 7, 1], some 3⟩ : Sl (Int)) false).bind fun t_71 =>
  (ckI .i64 ((lenI s_12) - 2)).bind fun x_81 =>
  (remI .u8 x0 6).bind fun x_82 =>
  (ckI .i64 (x_81 - x_82)).bind fun x_83 =>
  (idx s_12.xs x_83).bind fun y_84 =>
  (p16 n s_12 y_84.1).bind fun t_90 =>
  (p15 n (⟨t_90.1.xs, t_90.1.cap⟩ : Sl ((Sl (Int)) × Bool × Bool × Bool × Int)) (⟨[7, 7, 1], some 3⟩ : Sl (Int)) false).bind fun t_102 =>
  (if (t_71.2.2 == 9) = true then some (t_90.2 == 0) else some false).bind fun q_111 =>
  (if q_111 = true then some ((lenI (⟨t_90.1.xs, t_90.1.cap⟩ : Sl ((Sl (Int)) × Bool × Bool × Bool × Int))) == 126) else some false).bind fun q_112 =>
  (if q_112 = true then some (t_102.2.2 == 0) else some false).bind fun q_114 =>
  (if q_114 = true then some ((lenI t_102.1) == 127) else some false).bind fun q_115 =>
  (if q_115 = true then (p19 n t_102.1).bind fun t_118 => some (t_118 == 0) else some false).bind fun q_117 =>
  (if q_117 = true then (p8 n).bind fun t_125 => some t_125 else some false).bind fun q_124 =>
  some q_124
set_option maxHeartbeats 4000000 in
set_option maxRecDepth 100000 in
/-- plugboard/plugboardlaw32.SuspendsFull -/
theorem c7 (K : Nat → Prop) (n : Nat) (w : World) (x0 : Int) (G0 : InR .u8 x0) {r : (Bool)} (h : p7 n x0 = some r) :
    Calls Try.prog 7 #[.int .u8 x0] w (Ret1 .bool w (Kx K w.heap.size []) r) := by
  refine enter (args := [.int .u8 x0]) Try.func7 rfl 139 rfl rfl fun a S => ?_
  have W := Wd.start w
  unfold p7 at h
  replace S : St 139 a [(0, .int .u8 x0)] := S
  refine wp_seq ?_
  refine wp_region_lit ?_
  refine wl_pure (l' := [(2, .bool false), (0, .int .u8 x0)]) S tys tys_ok 1 (by kernel_rfl) ?_
  clear S; intro a S
  refine wpList_nil ?_
  refine then_n ?_
  replace S := S.sub (l' := [(0, .int .u8 x0)]) (by exact ⟨rfl, trivial⟩)
  refine wp_seq ?_
  refine wp_region_lit ?_
  refine wl_pure (l' := [(3, .slice .none 0 0), (0, .int .u8 x0)]) S tys tys_ok 1 (by kernel_rfl) ?_
  clear S; intro a S
  refine wpList_nil ?_
  refine then_n ?_
  refine wp_seq ?_
  refine wp_seq ?_
  refine wp_region_lit ?_
  refine wl_pure (l' := [(4, .int .i64 0), (3, .slice .none 0 0), (0, .int .u8 x0)]) S tys tys_ok 1 (by kernel_rfl) ?_
  clear S; intro a S
  refine wpList_nil ?_
  refine then_n ?_
  obtain ⟨y_11, ey_11, h⟩ := bindS h
  refine wp_cut_ (fun a_ w_ => ∃ s_12 : (Sl ((Sl (Int)) × Bool × Bool × Bool × Int)), y_11 = .inl s_12 ∧ (∃ (v_13 : Value), St 139 a_ [(0, .int .u8 x0), (3, v_13)] ∧ Wd w w_ [] ∧ RepV (.sl gt2) w_ (Kx K w.heap.size []) v_13 s_12)) ?_ ?_
  · refine wp_block ?_
    refine wp_loop_n (fun m_ a_ w_ => ∃ (c_1 : Int) (c_3 : Sl ((Sl (Int)) × Bool × Bool × Bool × Int)) , ∃ (v_4 : Value), St 139 a_ [(4, .int .i64 c_1), (3, v_4), (0, .int .u8 x0)] ∧ Wd w w_ [] ∧ InR .i64 c_1 ∧ RepV (.sl gt2) w_ (Kx K w.heap.size []) v_4 c_3 ∧ p7_l1 n m_ c_1 c_3 = some y_11) n ?_ ?_
    · skip
      exact ⟨0, ⟨[], some 0⟩, ⟨.slice .none 0 0, S.sub (by exact ⟨rfl, rfl, rfl, trivial⟩), W, (by decide), RepV.nil, ey_11⟩⟩
    · clear S W; rintro m_15 a w_17 ⟨c_1, c_3, v_4, S, W, G_2, R_5, hl_16⟩
      cases m_15 with
      | zero => exact absurd hl_16 (by simp [p7_l1])
      | succ m_15 =>
        refine ⟨m_15, rfl, ?_⟩
        rw [p7_l1] at hl_16
        refine wp_seq ?_
        refine wp_seq ?_
        refine wp_region_lit ?_
        refine wl_pure (l' := [(18, .bool (decide (c_1 < 127))), (17, .int .i64 c_1), (4, .int .i64 c_1), (3, v_4), (0, .int .u8 x0)]) S tys tys_ok 2 (by kernel_rfl) ?_
        clear S; intro a S
        refine wpList_nil ?_
        refine then_n ?_
        replace S := S.sub (l' := [(18, .bool (decide (c_1 < 127))), (4, .int .i64 c_1), (3, v_4), (0, .int .u8 x0)]) (by exact ⟨rfl, rfl, rfl, rfl, trivial⟩)
        refine wp_cond_split (S.eval (show ev _ _ = some (.bool (decide (c_1 < 127))) from rfl)) ?_ ?_
        · intro hc
          rw [if_pos hc] at hl_16
          refine wp_skip ?_
          refine then_n ?_
          replace S := S.sub (l' := [(4, .int .i64 c_1), (3, v_4), (0, .int .u8 x0)]) (by exact ⟨rfl, rfl, rfl, trivial⟩)
          refine wp_seq ?_
          refine wp_block ?_
          refine wp_seq ?_
          refine wp_region_lit ?_
          refine wl_pure (l' := [(21, .int .i64 c_1), (4, .int .i64 c_1), (3, v_4), (0, .int .u8 x0)]) S tys tys_ok 1 (by kernel_rfl) ?_
          clear S; intro a S
          obtain ⟨x_18, ex_18, hl_16⟩ := bindS hl_16
          refine w_go S rfl (op_rem S .i64 rfl rfl rfl rfl rfl ex_18 ?_)
          clear S; intro a S
          refine wl_pureK (l' := [(24, .int .u8 (IntKind.wrap .u8 (1 + (IntKind.wrap .u8 x_18)))), (4, .int .i64 c_1), (3, v_4), (0, .int .u8 x0)]) S tys tys_ok 2 [24, 4, 3, 0] (by kernel_rfl) ?_
          clear S; intro a S
          refine w_go S rfl (op_buildSlice (K := K) (e := (.int .u8)) (vs := [.int .u8 (IntKind.wrap .u8 (1 + (IntKind.wrap .u8 x_18)))]) (xs := [IntKind.wrap .u8 (1 + (IntKind.wrap .u8 x_18))]) S W rfl ty35 rfl rfl (by kernel_rfl) rfl rfl rfl rfl rfl ⟨(RepV.mkInt (inR_wrap _ _)), trivial⟩ ?_)
          clear S; intro a w_22 v_19 hb_21 R_20 S
          replace R_5 := R_5.step hb_21
          replace W := W.step hb_21
          refine wl_pure (l' := [(5, v_19), (25, v_19), (24, .int .u8 (IntKind.wrap .u8 (1 + (IntKind.wrap .u8 x_18)))), (4, .int .i64 c_1), (3, v_4), (0, .int .u8 x0)]) S tys tys_ok 1 (by kernel_rfl) ?_
          clear S; intro a S
          refine wpList_nil ?_
          refine then_n ?_
          replace S := S.sub (l' := [(5, v_19), (4, .int .i64 c_1), (3, v_4), (0, .int .u8 x0)]) (by exact ⟨rfl, rfl, rfl, rfl, trivial⟩)
          refine wp_seq ?_
          refine wp_seq ?_
          refine wp_region_lit ?_
          refine wl_pure (l' := [(27, .bool (decide (c_1 ≥ 7))), (26, .int .i64 c_1), (5, v_19), (4, .int .i64 c_1), (3, v_4), (0, .int .u8 x0)]) S tys tys_ok 2 (by kernel_rfl) ?_
          clear S; intro a S
          refine wpList_nil ?_
          refine then_n ?_
          replace S := S.sub (l' := [(27, .bool (decide (c_1 ≥ 7))), (5, v_19), (4, .int .i64 c_1), (3, v_4), (0, .int .u8 x0)]) (by exact ⟨rfl, rfl, rfl, rfl, rfl, trivial⟩)
          obtain ⟨j_23, ej_23, hl_16⟩ := bindS hl_16
          refine wp_cut_ (fun a_ w_ => ∃ (v_24 : Value), St 139 a_ [(5, v_24), (4, .int .i64 c_1), (3, v_4), (0, .int .u8 x0)] ∧ Wd w w_ [] ∧ RepV (.sl (.int .u8)) w_ (Kx K w.heap.size []) v_24 j_23 ∧ RepV (.sl gt2) w_ (Kx K w.heap.size []) v_4 c_3) ?_ ?_
          · refine wp_cond_split (S.eval (show ev _ _ = some (.bool (decide (c_1 ≥ 7))) from rfl)) ?_ ?_
            · intro hc
              rw [if_pos hc] at ej_23
              refine wp_region_lit ?_
              refine wl_pure (l' := [(28, .int .i64 c_1), (27, .bool (decide (c_1 ≥ 7))), (5, v_19), (4, .int .i64 c_1), (3, v_4), (0, .int .u8 x0)]) S tys tys_ok 1 (by kernel_rfl) ?_
              clear S; intro a S
              obtain ⟨x_26, ex_26, ej_23⟩ := bindS ej_23
              refine w_go S rfl (op_arith S .i64 (c_1 - 7) rfl (.inr (.inl rfl)) rfl rfl rfl rfl ex_26 ?_)
              clear S; intro a S
              obtain ⟨x_27, ex_27, ej_23⟩ := bindS ej_23
              refine w_go S rfl (op_quo S .i64 rfl rfl rfl rfl rfl ex_27 ?_)
              clear S; intro a S
              obtain ⟨x_28, ex_28, ej_23⟩ := bindS ej_23
              refine w_go S rfl (op_rem S .i64 rfl rfl rfl rfl rfl ex_28 ?_)
              clear S; intro a S
              refine wl_pureK (l' := [(34, .int .i64 c_1), (33, .int .u8 (IntKind.wrap .u8 (1 + (IntKind.wrap .u8 x_28)))), (5, v_19), (4, .int .i64 c_1), (3, v_4), (0, .int .u8 x0)]) S tys tys_ok 3 [34, 33, 5, 4, 3, 0] (by kernel_rfl) ?_
              clear S; intro a S
              obtain ⟨x_29, ex_29, ej_23⟩ := bindS ej_23
              refine w_go S rfl (op_arith S .i64 (c_1 - 7) rfl (.inr (.inl rfl)) rfl rfl rfl rfl ex_29 ?_)
              clear S; intro a S
              obtain ⟨x_30, ex_30, ej_23⟩ := bindS ej_23
              refine w_go S rfl (op_rem S .i64 rfl rfl rfl rfl rfl ex_30 ?_)
              clear S; intro a S
              refine wl_pureK (l' := [(38, .int .u8 (IntKind.wrap .u8 (1 + (IntKind.wrap .u8 x_30)))), (33, .int .u8 (IntKind.wrap .u8 (1 + (IntKind.wrap .u8 x_28)))), (5, v_19), (4, .int .i64 c_1), (3, v_4), (0, .int .u8 x0)]) S tys tys_ok 2 [38, 33, 5, 4, 3, 0] (by kernel_rfl) ?_
              clear S; intro a S
              refine w_go S rfl (op_buildSlice (K := K) (e := (.int .u8)) (vs := [.int .u8 (IntKind.wrap .u8 (1 + (IntKind.wrap .u8 x_28))), .int .u8 (IntKind.wrap .u8 (1 + (IntKind.wrap .u8 x_30)))]) (xs := [IntKind.wrap .u8 (1 + (IntKind.wrap .u8 x_28)), IntKind.wrap .u8 (1 + (IntKind.wrap .u8 x_30))]) S W rfl ty35 rfl rfl (by kernel_rfl) rfl rfl rfl rfl rfl ⟨(RepV.mkInt (inR_wrap _ _)), (RepV.mkInt (inR_wrap _ _)), trivial⟩ ?_)
              clear S; intro a w_34 v_31 hb_33 R_32 S
              replace R_20 := R_20.step hb_33
              replace R_5 := R_5.step hb_33
              replace W := W.step hb_33
              refine wl_pureK (l' := [(5, v_31), (5, v_19), (4, .int .i64 c_1), (3, v_4), (0, .int .u8 x0)]) S tys tys_ok 1 [5, 4, 3, 0] (by kernel_rfl) ?_
              clear S; intro a S
              refine wpList_nil ?_
              refine then_n ?_
              obtain rfl := Option.some.inj ej_23
              exact ⟨v_31, S.sub (by exact ⟨rfl, rfl, rfl, rfl, trivial⟩), W, R_32, R_5⟩
            · intro hc
              rw [if_neg (Bool.eq_false_iff.1 hc)] at ej_23
              refine wp_skip ?_
              refine then_n ?_
              obtain rfl := Option.some.inj ej_23
              exact ⟨v_19, S.sub (by exact ⟨rfl, rfl, rfl, rfl, trivial⟩), W, R_20, R_5⟩
          clear S W; rintro a w_35 ⟨v_24, S, W, R_25, R_5⟩
          refine then_n ?_
          refine wp_seq ?_
          refine wp_seq ?_
          refine wp_region_lit ?_
          refine wl_pure (l' := [(41, .bool (decide (c_1 ≥ 56))), (40, .int .i64 c_1), (5, v_24), (4, .int .i64 c_1), (3, v_4), (0, .int .u8 x0)]) S tys tys_ok 2 (by kernel_rfl) ?_
          clear S; intro a S
          refine wpList_nil ?_
          refine then_n ?_
          replace S := S.sub (l' := [(41, .bool (decide (c_1 ≥ 56))), (5, v_24), (4, .int .i64 c_1), (3, v_4), (0, .int .u8 x0)]) (by exact ⟨rfl, rfl, rfl, rfl, rfl, trivial⟩)
          obtain ⟨j_36, ej_36, hl_16⟩ := bindS hl_16
          refine wp_cut_ (fun a_ w_ => ∃ (v_37 : Value), St 139 a_ [(5, v_37), (4, .int .i64 c_1), (3, v_4), (0, .int .u8 x0)] ∧ Wd w w_ [] ∧ RepV (.sl (.int .u8)) w_ (Kx K w.heap.size []) v_37 j_36 ∧ RepV (.sl gt2) w_ (Kx K w.heap.size []) v_4 c_3) ?_ ?_
          · refine wp_cond_split (S.eval (show ev _ _ = some (.bool (decide (c_1 ≥ 56))) from rfl)) ?_ ?_
            · intro hc
              rw [if_pos hc] at ej_36
              refine wp_region_lit ?_
              refine wl_pure (l' := [(42, .int .i64 c_1), (41, .bool (decide (c_1 ≥ 56))), (5, v_24), (4, .int .i64 c_1), (3, v_4), (0, .int .u8 x0)]) S tys tys_ok 1 (by kernel_rfl) ?_
              clear S; intro a S
              obtain ⟨x_39, ex_39, ej_36⟩ := bindS ej_36
              refine w_go S rfl (op_arith S .i64 (c_1 - 56) rfl (.inr (.inl rfl)) rfl rfl rfl rfl ex_39 ?_)
              clear S; intro a S
              obtain ⟨x_40, ex_40, ej_36⟩ := bindS ej_36
              refine w_go S rfl (op_quo S .i64 rfl rfl rfl rfl rfl ex_40 ?_)
              clear S; intro a S
              refine wl_pureK (l' := [(47, .int .i64 c_1), (46, .int .u8 (IntKind.wrap .u8 (1 + (IntKind.wrap .u8 x_40)))), (5, v_24), (4, .int .i64 c_1), (3, v_4), (0, .int .u8 x0)]) S tys tys_ok 3 [47, 46, 5, 4, 3, 0] (by kernel_rfl) ?_
              clear S; intro a S
              obtain ⟨x_41, ex_41, ej_36⟩ := bindS ej_36
              refine w_go S rfl (op_arith S .i64 (c_1 - 56) rfl (.inr (.inl rfl)) rfl rfl rfl rfl ex_41 ?_)
              clear S; intro a S
              obtain ⟨x_42, ex_42, ej_36⟩ := bindS ej_36
              refine w_go S rfl (op_quo S .i64 rfl rfl rfl rfl rfl ex_42 ?_)
              clear S; intro a S
              obtain ⟨x_43, ex_43, ej_36⟩ := bindS ej_36
              refine w_go S rfl (op_rem S .i64 rfl rfl rfl rfl rfl ex_43 ?_)
              clear S; intro a S
              refine wl_pureK (l' := [(53, .int .i64 c_1), (52, .int .u8 (IntKind.wrap .u8 (1 + (IntKind.wrap .u8 x_43)))), (46, .int .u8 (IntKind.wrap .u8 (1 + (IntKind.wrap .u8 x_40)))), (5, v_24), (4, .int .i64 c_1), (3, v_4), (0, .int .u8 x0)]) S tys tys_ok 3 [53, 52, 46, 5, 4, 3, 0] (by kernel_rfl) ?_
              clear S; intro a S
              obtain ⟨x_44, ex_44, ej_36⟩ := bindS ej_36
              refine w_go S rfl (op_arith S .i64 (c_1 - 56) rfl (.inr (.inl rfl)) rfl rfl rfl rfl ex_44 ?_)
              clear S; intro a S
              obtain ⟨x_45, ex_45, ej_36⟩ := bindS ej_36
              refine w_go S rfl (op_rem S .i64 rfl rfl rfl rfl rfl ex_45 ?_)
              clear S; intro a S
              refine wl_pureK (l' := [(57, .int .u8 (IntKind.wrap .u8 (1 + (IntKind.wrap .u8 x_45)))), (52, .int .u8 (IntKind.wrap .u8 (1 + (IntKind.wrap .u8 x_43)))), (46, .int .u8 (IntKind.wrap .u8 (1 + (IntKind.wrap .u8 x_40)))), (5, v_24), (4, .int .i64 c_1), (3, v_4), (0, .int .u8 x0)]) S tys tys_ok 2 [57, 52, 46, 5, 4, 3, 0] (by kernel_rfl) ?_
              clear S; intro a S
              refine w_go S rfl (op_buildSlice (K := K) (e := (.int .u8)) (vs := [.int .u8 (IntKind.wrap .u8 (1 + (IntKind.wrap .u8 x_40))), .int .u8 (IntKind.wrap .u8 (1 + (IntKind.wrap .u8 x_43))), .int .u8 (IntKind.wrap .u8 (1 + (IntKind.wrap .u8 x_45)))]) (xs := [IntKind.wrap .u8 (1 + (IntKind.wrap .u8 x_40)), IntKind.wrap .u8 (1 + (IntKind.wrap .u8 x_43)), IntKind.wrap .u8 (1 + (IntKind.wrap .u8 x_45))]) S W rfl ty35 rfl rfl (by kernel_rfl) rfl rfl rfl rfl rfl ⟨(RepV.mkInt (inR_wrap _ _)), (RepV.mkInt (inR_wrap _ _)), (RepV.mkInt (inR_wrap _ _)), trivial⟩ ?_)
              clear S; intro a w_49 v_46 hb_48 R_47 S
              replace R_25 := R_25.step hb_48
              replace R_5 := R_5.step hb_48
              replace W := W.step hb_48
              refine wl_pureK (l' := [(5, v_46), (5, v_24), (4, .int .i64 c_1), (3, v_4), (0, .int .u8 x0)]) S tys tys_ok 1 [5, 4, 3, 0] (by kernel_rfl) ?_
              clear S; intro a S
              refine wpList_nil ?_
              refine then_n ?_
              obtain rfl := Option.some.inj ej_36
              exact ⟨v_46, S.sub (by exact ⟨rfl, rfl, rfl, rfl, trivial⟩), W, R_47, R_5⟩
            · intro hc
              rw [if_neg (Bool.eq_false_iff.1 hc)] at ej_36
              refine wp_skip ?_
              refine then_n ?_
              obtain rfl := Option.some.inj ej_36
              exact ⟨v_24, S.sub (by exact ⟨rfl, rfl, rfl, rfl, trivial⟩), W, R_25, R_5⟩
          clear S W; rintro a w_50 ⟨v_37, S, W, R_38, R_5⟩
          refine then_n ?_
          refine wp_seq ?_
          refine wp_region_lit ?_
          refine wl_pure (l' := [(61, v_37), (60, v_4), (5, v_37), (4, .int .i64 c_1), (3, v_4), (0, .int .u8 x0)]) S tys tys_ok 2 (by kernel_rfl) ?_
          clear S; intro a S
          obtain ⟨t_51, et_51, hl_16⟩ := bindS hl_16
          refine w_go S rfl (op_call (vs := [v_4, v_37, .bool false]) S rfl cb15 rfl rfl rfl (c15 (Kx K w.heap.size []) n w_50 c_3 _ R_5 j_36 _ R_38 false et_51) ?_)
          rintro _ w_59 ⟨v_52, v_53, v_54, rfl, R_55, R_56, R_57, hb_58⟩; refine ⟨_, rfl, ?_⟩
          replace R_55 := RepV.back R_55 W
          replace R_56 := RepV.back R_56 W
          replace R_57 := RepV.back R_57 W
          clear S; intro a S
          replace R_38 := R_38.step hb_58
          replace R_5 := R_5.step hb_58
          replace W := W.step hb_58
          obtain ⟨rfl, GR_57⟩ := RepV.int R_57
          refine wl_pureK (l' := [(8, .int .i64 t_51.2.2), (7, v_53), (6, v_52), (4, .int .i64 c_1), (0, .int .u8 x0)]) S tys tys_ok 7 [8, 7, 6, 4, 0] (by kernel_rfl) ?_
          clear S; intro a S
          refine wpList_nil ?_
          refine then_n ?_
          refine wp_seq ?_
          refine wp_seq ?_
          refine wp_region_lit ?_
          refine wl_pureK (l' := [(68, .bool (t_51.2.2 != 0)), (7, v_53), (6, v_52), (4, .int .i64 c_1), (0, .int .u8 x0)]) S tys tys_ok 3 [68, 7, 6, 4, 0] (by kernel_rfl) ?_
          clear S; intro a S
          obtain ⟨q_60, eq_60, hl_16⟩ := bindS hl_16
          refine seg 6 (fun a_ w_ => w_59 = w_ ∧ St 139 a_ [(74, .bool q_60), (7, v_53), (6, v_52), (4, .int .i64 c_1), (0, .int .u8 x0)]) ?_ ?_
          · by_cases hc : (t_51.2.2 != 0) = false
            · rw [if_pos hc] at eq_60; rw [hc] at S
              refine wl_pure (l' := [(69, v_52), (68, .bool false), (7, v_53), (6, v_52), (4, .int .i64 c_1), (0, .int .u8 x0)]) S tys tys_ok 1 (by kernel_rfl) ?_
              clear S; intro a S
              refine w_go S rfl (op_len (K := _) S rfl ty25 rfl rfl rfl R_55 ?_)
              clear S; intro a G_61 S
              refine wl_pure (l' := [(71, .int .i64 c_1), (70, .int .i64 (lenI t_51.1)), (69, v_52), (68, .bool false), (7, v_53), (6, v_52), (4, .int .i64 c_1), (0, .int .u8 x0)]) S tys tys_ok 1 (by kernel_rfl) ?_
              clear S; intro a S
              obtain ⟨x_62, ex_62, eq_60⟩ := bindS eq_60
              refine w_go S rfl (op_arith S .i64 (c_1 + 1) rfl (.inl rfl) rfl rfl rfl rfl ex_62 ?_)
              clear S; intro a S
              refine wl_pure (l' := [(74, .bool ((lenI t_51.1) != x_62)), (73, .bool ((lenI t_51.1) != x_62)), (72, .int .i64 x_62), (71, .int .i64 c_1), (70, .int .i64 (lenI t_51.1)), (69, v_52), (68, .bool false), (7, v_53), (6, v_52), (4, .int .i64 c_1), (0, .int .u8 x0)]) S tys tys_ok 2 (by kernel_rfl) ?_
              clear S; intro a S
              obtain rfl := Option.some.inj eq_60
              exact ⟨rfl, S.sub (by exact ⟨rfl, rfl, rfl, rfl, rfl, trivial⟩)⟩
            · rw [if_neg hc] at eq_60; rw [show (t_51.2.2 != 0) = true from (by simpa using hc)] at S
              refine wl_pure (l' := [(74, .bool true), (73, undef), (72, undef), (71, undef), (70, undef), (69, undef), (68, .bool true), (7, v_53), (6, v_52), (4, .int .i64 c_1), (0, .int .u8 x0)]) S tys tys_ok 6 (by kernel_rfl) ?_
              clear S; intro a S
              obtain rfl := Option.some.inj eq_60
              exact ⟨rfl, S.sub (by exact ⟨rfl, rfl, rfl, rfl, rfl, trivial⟩)⟩
          clear S eq_60; rintro a _ ⟨rfl, S⟩
          refine wl_pure (l' := [(75, .bool q_60), (74, .bool q_60), (7, v_53), (6, v_52), (4, .int .i64 c_1), (0, .int .u8 x0)]) S tys tys_ok 1 (by kernel_rfl) ?_
          clear S; intro a S
          obtain ⟨q_63, eq_63, hl_16⟩ := bindS hl_16
          refine seg 4 (fun a_ w_ => w_59 = w_ ∧ St 139 a_ [(79, .bool q_63), (6, v_52), (4, .int .i64 c_1), (0, .int .u8 x0)]) ?_ ?_
          · by_cases hc : q_60 = false
            · rw [if_pos hc] at eq_63; rw [hc] at S
              refine wl_pure (l' := [(76, v_53), (75, .bool false), (74, .bool false), (7, v_53), (6, v_52), (4, .int .i64 c_1), (0, .int .u8 x0)]) S tys tys_ok 1 (by kernel_rfl) ?_
              clear S; intro a S
              refine w_go S rfl (op_len (K := _) S rfl ty26 rfl rfl rfl R_56 ?_)
              clear S; intro a G_64 S
              refine wl_pureK (l' := [(79, .bool ((lenI t_51.2.1) != 0)), (78, .bool ((lenI t_51.2.1) != 0)), (77, .int .i64 (lenI t_51.2.1)), (76, v_53), (6, v_52), (4, .int .i64 c_1), (0, .int .u8 x0)]) S tys tys_ok 2 [79, 78, 77, 76, 6, 4, 0] (by kernel_rfl) ?_
              clear S; intro a S
              obtain rfl := Option.some.inj eq_63
              exact ⟨rfl, S.sub (by exact ⟨rfl, rfl, rfl, rfl, trivial⟩)⟩
            · rw [if_neg hc] at eq_63; rw [show q_60 = true from (by simpa using hc)] at S
              refine wl_pureK (l' := [(79, .bool true), (78, undef), (77, undef), (76, undef), (6, v_52), (4, .int .i64 c_1), (0, .int .u8 x0)]) S tys tys_ok 4 [79, 78, 77, 76, 6, 4, 0] (by kernel_rfl) ?_
              clear S; intro a S
              obtain rfl := Option.some.inj eq_63
              exact ⟨rfl, S.sub (by exact ⟨rfl, rfl, rfl, rfl, trivial⟩)⟩
          clear S eq_63; rintro a _ ⟨rfl, S⟩
          refine wpList_nil ?_
          refine then_n ?_
          refine wp_cond_split (S.eval (show ev _ _ = some (.bool q_63) from rfl)) ?_ ?_
          · intro hc
            rw [if_pos hc] at hl_16
            refine wp_seq ?_
            refine wp_region_lit ?_
            refine wl_pureK (l' := [(2, .bool false)]) S tys tys_ok 1 [2] (by kernel_rfl) ?_
            clear S; intro a S
            refine wpList_nil ?_
            refine then_n ?_
            refine wp_ret ?_
            refine then_r ?_
            refine blk_r ?_
            refine then_r ?_
            refine then_r ?_
            refine blk_r ?_
            refine then_r ?_
            refine then_r ?_
            obtain rfl := Option.some.inj hl_16
            obtain rfl := lr_inr h
            exact b_ret1 S rfl rfl ⟨_, rfl, RepV.mkBool, W.below⟩
          · intro hc
            rw [if_neg (Bool.eq_false_iff.1 hc)] at hl_16
            refine wp_skip ?_
            refine then_n ?_
            replace S := S.sub (l' := [(6, v_52), (4, .int .i64 c_1), (0, .int .u8 x0)]) (by exact ⟨rfl, rfl, rfl, trivial⟩)
            refine wp_region_lit ?_
            refine wl_pure (l' := [(3, v_52), (80, v_52), (6, v_52), (4, .int .i64 c_1), (0, .int .u8 x0)]) S tys tys_ok 2 (by kernel_rfl) ?_
            clear S; intro a S
            refine wpList_nil ?_
            refine blk_n ?_
            refine then_n ?_
            replace S := S.sub (l' := [(3, v_52), (4, .int .i64 c_1), (0, .int .u8 x0)]) (by exact ⟨rfl, rfl, rfl, trivial⟩)
            refine wp_region_lit ?_
            refine wl_pure (l' := [(19, .int .i64 c_1), (3, v_52), (4, .int .i64 c_1), (0, .int .u8 x0)]) S tys tys_ok 1 (by kernel_rfl) ?_
            clear S; intro a S
            obtain ⟨x_65, ex_65, hl_16⟩ := bindS hl_16
            refine w_go S rfl (op_arith S .i64 (c_1 + 1) rfl (.inl rfl) rfl rfl rfl rfl ex_65 ?_)
            clear S; intro a S
            refine wl_pure (l' := [(4, .int .i64 x_65), (20, .int .i64 x_65), (19, .int .i64 c_1), (3, v_52), (4, .int .i64 c_1), (0, .int .u8 x0)]) S tys tys_ok 1 (by kernel_rfl) ?_
            clear S; intro a S
            refine wpList_nil ?_
            refine then_n ?_
            exact ⟨x_65, t_51.1, ⟨v_52, S.sub (by exact ⟨rfl, rfl, rfl, trivial⟩), W, (ckI_some ex_65).2.1, R_55, hl_16⟩⟩
        · intro hc
          rw [if_neg (Bool.eq_false_iff.1 hc)] at hl_16
          refine wp_exit ?_
          refine then_x ?_
          refine then_x ?_
          refine blk_hit ?_
          refine then_n ?_
          obtain rfl := Option.some.inj hl_16
          exact ⟨_, rfl, ⟨v_4, S.sub (by exact ⟨rfl, rfl, trivial⟩), W, R_5⟩⟩
  clear S W; rintro a w_66 ⟨s_12, rfl, v_13, S, W, R_14⟩
  replace h := lr_inl h; try dsimp only at h
  refine then_n ?_
  refine wp_seq ?_
  refine wp_region_lit ?_
  refine wl_pure (l' := [(82, v_13), (0, .int .u8 x0), (3, v_13)]) S tys tys_ok 1 (by kernel_rfl) ?_
  clear S; intro a S
  refine w_go S rfl (op_buildSlice (K := K) (e := (.int .u8)) (vs := [.int .u8 7, .int .u8 7, .int .u8 1]) (xs := [7, 7, 1]) S W rfl ty35 rfl rfl (by kernel_rfl) rfl rfl rfl rfl rfl ⟨(RepV.mkInt (by decide)), (RepV.mkInt (by decide)), (RepV.mkInt (by decide)), trivial⟩ ?_)
  clear S; intro a w_70 v_67 hb_69 R_68 S
  replace R_14 := R_14.step hb_69
  replace W := W.step hb_69
  obtain ⟨t_71, et_71, h⟩ := bindS h
  refine w_go S rfl (op_call (vs := [v_13, v_67, .bool false]) S rfl cb15 rfl rfl rfl (c15 (Kx K w.heap.size []) n w_70 s_12 _ R_14 (⟨[7, 7, 1], some 3⟩ : Sl (Int)) _ R_68 false et_71) ?_)
  rintro _ w_79 ⟨v_72, v_73, v_74, rfl, R_75, R_76, R_77, hb_78⟩; refine ⟨_, rfl, ?_⟩
  replace R_75 := RepV.back R_75 W
  replace R_76 := RepV.back R_76 W
  replace R_77 := RepV.back R_77 W
  clear S; intro a S
  replace R_14 := R_14.step hb_78
  replace R_68 := R_68.step hb_78
  replace W := W.step hb_78
  obtain ⟨rfl, GR_77⟩ := RepV.int R_77
  refine wl_pureK (l' := [(11, .int .i64 t_71.2.2), (0, .int .u8 x0), (3, v_13)]) S tys tys_ok 7 [11, 0, 3] (by kernel_rfl) ?_
  clear S; intro a S
  refine wpList_nil ?_
  refine then_n ?_
  refine wp_seq ?_
  refine wp_region_lit ?_
  refine wl_pure (l' := [(91, v_13), (90, v_13), (89, v_13), (11, .int .i64 t_71.2.2), (0, .int .u8 x0), (3, v_13)]) S tys tys_ok 3 (by kernel_rfl) ?_
  clear S; intro a S
  refine w_go S rfl (op_len (K := _) S rfl ty25 rfl rfl rfl R_14 ?_)
  clear S; intro a G_80 S
  obtain ⟨x_81, ex_81, h⟩ := bindS h
  refine w_go S rfl (op_arith S .i64 ((lenI s_12) - 2) rfl (.inr (.inl rfl)) rfl rfl rfl rfl ex_81 ?_)
  clear S; intro a S
  refine wl_pureK (l' := [(94, .int .u8 x0), (93, .int .i64 x_81), (90, v_13), (89, v_13), (11, .int .i64 t_71.2.2)]) S tys tys_ok 1 [94, 93, 90, 89, 11] (by kernel_rfl) ?_
  clear S; intro a S
  obtain ⟨x_82, ex_82, h⟩ := bindS h
  refine w_go S rfl (op_rem S .u8 rfl rfl rfl rfl rfl ex_82 ?_)
  clear S; intro a S
  refine w_go S rfl (op_conv S .i64 .bool .bool rfl ty5 ty3 rfl rfl rfl (widen (inR_rem ex_82) (by decide)).1 ?_)
  clear S; intro a S
  obtain ⟨x_83, ex_83, h⟩ := bindS h
  refine w_go S rfl (op_arith S .i64 (x_81 - x_82) rfl (.inr (.inl rfl)) rfl rfl rfl rfl ex_83 ?_)
  clear S; intro a S
  obtain ⟨y_84, ey_84, h⟩ := bindS h
  refine w_go S rfl (op_indexAddr S rfl ty25 rfl rfl rfl R_14 rfl ey_84 ?_)
  clear S; intro a p_85 R_86 H_87 S
  refine wl_pureK (l' := [(99, .pointer (some (p_85.add (coff gf2 0)))), (89, v_13), (11, .int .i64 t_71.2.2)]) S tys tys_ok 1 [99, 89, 11] (by kernel_rfl) ?_
  clear S; intro a S
  refine w_go S rfl (op_load (t := (.sl (.int .u8))) (x := y_84.1) S rfl ty35 rfl rfl rfl (RepAt.add 0 (RepAt.st (t := gf2) R_86)) ?_)
  clear S; intro a v_88 R_89 S
  obtain ⟨t_90, et_90, h⟩ := bindS h
  refine w_go S rfl (op_call (vs := [v_13, v_88]) S rfl cb16 rfl rfl rfl (c16 (Kx K w.heap.size []) n w_79 s_12 _ R_14 y_84.1 _ R_89 et_90) ?_)
  rintro _ w_96 ⟨v_91, v_92, rfl, R_93, R_94, hb_95⟩; refine ⟨_, rfl, ?_⟩
  have NO_ := newO_of R_93 (Nat.le_refl _) hb_95
  replace R_93 := Ow.backO R_93 W
  replace R_94 := RepV.backO R_94 W
  clear S; intro a S
  replace R_14 := R_14.newO NO_
  replace R_89 := R_89.newO NO_
  replace W := W.newO NO_
  clear NO_
  obtain ⟨rfl, GR_94⟩ := RepV.int R_94
  refine wl_pureK (l' := [(13, .int .i64 t_90.2), (12, v_91), (11, .int .i64 t_71.2.2)]) S tys tys_ok 5 [13, 12, 11] (by kernel_rfl) ?_
  clear S; intro a S
  refine wpList_nil ?_
  refine then_n ?_
  refine wp_seq ?_
  refine wp_region_lit ?_
  refine wl_pure (l' := [(105, v_91), (13, .int .i64 t_90.2), (12, v_91), (11, .int .i64 t_71.2.2)]) S tys tys_ok 1 (by kernel_rfl) ?_
  clear S; intro a S
  refine w_go S rfl (op_buildSlice (K := K) (e := (.int .u8)) (vs := [.int .u8 7, .int .u8 7, .int .u8 1]) (xs := [7, 7, 1]) S W rfl ty35 rfl rfl (by kernel_rfl) rfl rfl rfl rfl rfl ⟨(RepV.mkInt (by decide)), (RepV.mkInt (by decide)), (RepV.mkInt (by decide)), trivial⟩ ?_)
  clear S; intro a w_100 v_97 hb_99 R_98 S
  replace R_93 := R_93.step hb_99
  replace W := W.step hb_99
  have R_101 : RepV (.sl gt2) w_100 (Kx K w.heap.size []) v_91 (⟨t_90.1.xs, t_90.1.cap⟩ : Sl ((Sl (Int)) × Bool × Bool × Bool × Int)) := R_93.pubAt W 0 rfl
  replace R_98 : RepV (.sl (.int .u8)) w_100 (Kx K w.heap.size []) v_97 (⟨[7, 7, 1], some 3⟩ : Sl (Int)) := R_98.lessAt 0
  replace W : Wd w w_100 [] := W.lessAt 0
  obtain ⟨t_102, et_102, h⟩ := bindS h
  refine w_go S rfl (op_call (vs := [v_91, v_97, .bool false]) S rfl cb15 rfl rfl rfl (c15 (Kx K w.heap.size []) n w_100 (⟨t_90.1.xs, t_90.1.cap⟩ : Sl ((Sl (Int)) × Bool × Bool × Bool × Int)) _ R_101 (⟨[7, 7, 1], some 3⟩ : Sl (Int)) _ R_98 false et_102) ?_)
  rintro _ w_110 ⟨v_103, v_104, v_105, rfl, R_106, R_107, R_108, hb_109⟩; refine ⟨_, rfl, ?_⟩
  replace R_106 := RepV.back R_106 W
  replace R_107 := RepV.back R_107 W
  replace R_108 := RepV.back R_108 W
  clear S; intro a S
  replace R_101 := R_101.step hb_109
  replace R_98 := R_98.step hb_109
  replace W := W.step hb_109
  obtain ⟨rfl, GR_108⟩ := RepV.int R_108
  refine wl_pureK (l' := [(16, .int .i64 t_102.2.2), (14, v_103), (13, .int .i64 t_90.2), (12, v_91), (11, .int .i64 t_71.2.2)]) S tys tys_ok 7 [16, 14, 13, 12, 11] (by kernel_rfl) ?_
  clear S; intro a S
  refine wpList_nil ?_
  refine then_n ?_
  refine wp_seq ?_
  refine wp_region_lit ?_
  refine wl_pureK (l' := [(113, .bool (t_71.2.2 == 9)), (16, .int .i64 t_102.2.2), (14, v_103), (13, .int .i64 t_90.2), (12, v_91)]) S tys tys_ok 3 [113, 16, 14, 13, 12] (by kernel_rfl) ?_
  clear S; intro a S
  obtain ⟨q_111, eq_111, h⟩ := bindS h
  refine seg 3 (fun a_ w_ => w_110 = w_ ∧ St 139 a_ [(116, .bool q_111), (16, .int .i64 t_102.2.2), (14, v_103), (12, v_91)]) ?_ ?_
  · by_cases hc : (t_71.2.2 == 9) = true
    · rw [if_pos hc] at eq_111; rw [hc] at S
      refine wl_pureK (l' := [(116, .bool (t_90.2 == 0)), (16, .int .i64 t_102.2.2), (14, v_103), (12, v_91)]) S tys tys_ok 3 [116, 16, 14, 12] (by kernel_rfl) ?_
      clear S; intro a S
      obtain rfl := Option.some.inj eq_111
      exact ⟨rfl, S.sub (by exact ⟨rfl, rfl, rfl, rfl, trivial⟩)⟩
    · rw [if_neg hc] at eq_111; rw [show (t_71.2.2 == 9) = false from Bool.eq_false_iff.2 hc] at S
      refine wl_pureK (l' := [(116, .bool false), (16, .int .i64 t_102.2.2), (14, v_103), (12, v_91)]) S tys tys_ok 3 [116, 16, 14, 12] (by kernel_rfl) ?_
      clear S; intro a S
      obtain rfl := Option.some.inj eq_111
      exact ⟨rfl, S.sub (by exact ⟨rfl, rfl, rfl, rfl, trivial⟩)⟩
  clear S eq_111; rintro a _ ⟨rfl, S⟩
  refine wl_pure (l' := [(117, .bool q_111), (116, .bool q_111), (16, .int .i64 t_102.2.2), (14, v_103), (12, v_91)]) S tys tys_ok 1 (by kernel_rfl) ?_
  clear S; intro a S
  obtain ⟨q_112, eq_112, h⟩ := bindS h
  refine seg 4 (fun a_ w_ => w_110 = w_ ∧ St 139 a_ [(121, .bool q_112), (16, .int .i64 t_102.2.2), (14, v_103)]) ?_ ?_
  · by_cases hc : q_111 = true
    · rw [if_pos hc] at eq_112; rw [hc] at S
      refine wl_pure (l' := [(118, v_91), (117, .bool true), (116, .bool true), (16, .int .i64 t_102.2.2), (14, v_103), (12, v_91)]) S tys tys_ok 1 (by kernel_rfl) ?_
      clear S; intro a S
      refine w_go S rfl (op_len (K := _) S rfl ty25 rfl rfl rfl R_101 ?_)
      clear S; intro a G_113 S
      refine wl_pureK (l' := [(121, .bool ((lenI (⟨t_90.1.xs, t_90.1.cap⟩ : Sl ((Sl (Int)) × Bool × Bool × Bool × Int))) == 126)), (16, .int .i64 t_102.2.2), (14, v_103)]) S tys tys_ok 2 [121, 16, 14] (by kernel_rfl) ?_
      clear S; intro a S
      obtain rfl := Option.some.inj eq_112
      exact ⟨rfl, S.sub (by exact ⟨rfl, rfl, rfl, trivial⟩)⟩
    · rw [if_neg hc] at eq_112; rw [show q_111 = false from Bool.eq_false_iff.2 hc] at S
      refine wl_pureK (l' := [(121, .bool false), (16, .int .i64 t_102.2.2), (14, v_103)]) S tys tys_ok 4 [121, 16, 14] (by kernel_rfl) ?_
      clear S; intro a S
      obtain rfl := Option.some.inj eq_112
      exact ⟨rfl, S.sub (by exact ⟨rfl, rfl, rfl, trivial⟩)⟩
  clear S eq_112; rintro a _ ⟨rfl, S⟩
  refine wl_pure (l' := [(122, .bool q_112), (121, .bool q_112), (16, .int .i64 t_102.2.2), (14, v_103)]) S tys tys_ok 1 (by kernel_rfl) ?_
  clear S; intro a S
  obtain ⟨q_114, eq_114, h⟩ := bindS h
  refine seg 3 (fun a_ w_ => w_110 = w_ ∧ St 139 a_ [(125, .bool q_114), (14, v_103)]) ?_ ?_
  · by_cases hc : q_112 = true
    · rw [if_pos hc] at eq_114; rw [hc] at S
      refine wl_pureK (l' := [(125, .bool (t_102.2.2 == 0)), (14, v_103)]) S tys tys_ok 3 [125, 14] (by kernel_rfl) ?_
      clear S; intro a S
      obtain rfl := Option.some.inj eq_114
      exact ⟨rfl, S.sub (by exact ⟨rfl, rfl, trivial⟩)⟩
    · rw [if_neg hc] at eq_114; rw [show q_112 = false from Bool.eq_false_iff.2 hc] at S
      refine wl_pureK (l' := [(125, .bool false), (14, v_103)]) S tys tys_ok 3 [125, 14] (by kernel_rfl) ?_
      clear S; intro a S
      obtain rfl := Option.some.inj eq_114
      exact ⟨rfl, S.sub (by exact ⟨rfl, rfl, trivial⟩)⟩
  clear S eq_114; rintro a _ ⟨rfl, S⟩
  refine wl_pure (l' := [(126, .bool q_114), (125, .bool q_114), (14, v_103)]) S tys tys_ok 1 (by kernel_rfl) ?_
  clear S; intro a S
  obtain ⟨q_115, eq_115, h⟩ := bindS h
  refine seg 4 (fun a_ w_ => w_110 = w_ ∧ St 139 a_ [(130, .bool q_115), (14, v_103)]) ?_ ?_
  · by_cases hc : q_114 = true
    · rw [if_pos hc] at eq_115; rw [hc] at S
      refine wl_pure (l' := [(127, v_103), (126, .bool true), (125, .bool true), (14, v_103)]) S tys tys_ok 1 (by kernel_rfl) ?_
      clear S; intro a S
      refine w_go S rfl (op_len (K := _) S rfl ty25 rfl rfl rfl R_106 ?_)
      clear S; intro a G_116 S
      refine wl_pureK (l' := [(130, .bool ((lenI t_102.1) == 127)), (14, v_103)]) S tys tys_ok 2 [130, 14] (by kernel_rfl) ?_
      clear S; intro a S
      obtain rfl := Option.some.inj eq_115
      exact ⟨rfl, S.sub (by exact ⟨rfl, rfl, trivial⟩)⟩
    · rw [if_neg hc] at eq_115; rw [show q_114 = false from Bool.eq_false_iff.2 hc] at S
      refine wl_pureK (l' := [(130, .bool false), (14, v_103)]) S tys tys_ok 4 [130, 14] (by kernel_rfl) ?_
      clear S; intro a S
      obtain rfl := Option.some.inj eq_115
      exact ⟨rfl, S.sub (by exact ⟨rfl, rfl, trivial⟩)⟩
  clear S eq_115; rintro a _ ⟨rfl, S⟩
  refine wl_pure (l' := [(131, .bool q_115), (130, .bool q_115), (14, v_103)]) S tys tys_ok 1 (by kernel_rfl) ?_
  clear S; intro a S
  obtain ⟨q_117, eq_117, h⟩ := bindS h
  refine seg 4 (fun a_ w_ => St 139 a_ [(135, .bool q_117)] ∧ Wd w w_ []) ?_ ?_
  · by_cases hc : q_115 = true
    · rw [if_pos hc] at eq_117; rw [hc] at S
      refine wl_pure (l' := [(132, v_103), (131, .bool true), (130, .bool true), (14, v_103)]) S tys tys_ok 1 (by kernel_rfl) ?_
      clear S; intro a S
      obtain ⟨t_118, et_118, eq_117⟩ := bindS eq_117
      refine w_go S rfl (op_call (vs := [v_103]) S rfl cb19 rfl rfl rfl (c19 (Kx K w.heap.size []) n w_110 t_102.1 _ R_106 et_118) ?_)
      rintro _ w_122 ⟨v_119, rfl, R_120, hb_121⟩; refine ⟨_, rfl, ?_⟩
      replace R_120 := RepV.back R_120 W
      clear S; intro a S
      replace R_106 := R_106.step hb_121
      replace W := W.step hb_121
      obtain ⟨rfl, GR_120⟩ := RepV.int R_120
      refine wl_pureK (l' := [(135, .bool (t_118 == 0))]) S tys tys_ok 2 [135] (by kernel_rfl) ?_
      clear S; intro a S
      obtain rfl := Option.some.inj eq_117
      exact ⟨S.sub (by exact ⟨rfl, trivial⟩), W⟩
    · rw [if_neg hc] at eq_117; rw [show q_115 = false from Bool.eq_false_iff.2 hc] at S
      refine wl_pureK (l' := [(135, .bool false)]) S tys tys_ok 4 [135] (by kernel_rfl) ?_
      clear S; intro a S
      obtain rfl := Option.some.inj eq_117
      exact ⟨S.sub (by exact ⟨rfl, trivial⟩), W⟩
  clear S W eq_117; rintro a w_123 ⟨S, W⟩
  refine wl_pure (l' := [(136, .bool q_117), (135, .bool q_117)]) S tys tys_ok 1 (by kernel_rfl) ?_
  clear S; intro a S
  obtain ⟨q_124, eq_124, h⟩ := bindS h
  refine seg 2 (fun a_ w_ => St 139 a_ [(138, .bool q_124)] ∧ Wd w w_ []) ?_ ?_
  · by_cases hc : q_117 = true
    · rw [if_pos hc] at eq_124; rw [hc] at S
      obtain ⟨t_125, et_125, eq_124⟩ := bindS eq_124
      refine w_go S rfl (op_call (vs := []) S rfl cb8 rfl rfl rfl (c8 (Kx K w.heap.size []) n w_123  et_125) ?_)
      rintro _ w_129 ⟨v_126, rfl, R_127, hb_128⟩; refine ⟨_, rfl, ?_⟩
      replace R_127 := RepV.back R_127 W
      clear S; intro a S
      replace W := W.step hb_128
      obtain rfl := RepV.bool R_127
      refine wl_pureK (l' := [(138, .bool t_125)]) S tys tys_ok 1 [138] (by kernel_rfl) ?_
      clear S; intro a S
      obtain rfl := Option.some.inj eq_124
      exact ⟨S.sub (by exact ⟨rfl, trivial⟩), W⟩
    · rw [if_neg hc] at eq_124; rw [show q_117 = false from Bool.eq_false_iff.2 hc] at S
      refine wl_pureK (l' := [(138, .bool false)]) S tys tys_ok 2 [138] (by kernel_rfl) ?_
      clear S; intro a S
      obtain rfl := Option.some.inj eq_124
      exact ⟨S.sub (by exact ⟨rfl, trivial⟩), W⟩
  clear S W eq_124; rintro a w_130 ⟨S, W⟩
  refine wl_pure (l' := [(2, .bool q_124), (138, .bool q_124)]) S tys tys_ok 1 (by kernel_rfl) ?_
  clear S; intro a S
  refine wpList_nil ?_
  refine then_n ?_
  replace S := S.sub (l' := [(2, .bool q_124)]) (by exact ⟨rfl, trivial⟩)
  refine wp_ret ?_
  obtain rfl := Option.some.inj h
  exact b_ret1 S rfl rfl ⟨_, rfl, RepV.mkBool, W.below⟩

end Go.Proofs.Ytflieonbbggmhaa
