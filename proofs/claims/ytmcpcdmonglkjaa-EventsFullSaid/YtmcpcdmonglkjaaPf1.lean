/- Functions of the program, as plain data. -/
import Derived.Test.YtmcpcdmonglkjaaP5
set_option linter.unusedVariables false
set_option linter.unusedSimpArgs false
namespace Go.Proofs.Ytmcpcdmonglkjaa
open Go.RowKit

def p3_l1 (n : Nat)  : Nat → (Int) → (Sl ((Sl (Int)) × Int × Int)) → Option (((Sl ((Sl (Int)) × Int × Int))) ⊕ ((Bool)))
 | 0, _, _ => .none
 | m + 1, c_1, c_3 => if (decide (c_1 < 127)) then ((remI .i64 c_1 7).bind fun x_18 => (if (decide (c_1 ≥ 7)) then ((ckI .i64 (c_1 - 7)).bind fun x_35 => (quoI .i64 x_35 7).bind fun x_36 => (remI .i64 x_36 7).bind fun x_37 => (ckI .i64 (c_1 - 7)).bind fun x_38 => (remI .i64 x_38 7).bind fun x_39 => some (⟨[IntKind.wrap .u8 (1 + (IntKind.wrap .u8 x_37)), IntKind.wrap .u8 (1 + (IntKind.wrap .u8 x_39))], some 2⟩ : Sl (Int))) else some (⟨[IntKind.wrap .u8 (1 + (IntKind.wrap .u8 x_18))], some 1⟩ : Sl (Int))).bind fun (j_32 : (Sl (Int))) => (if (decide (c_1 ≥ 56)) then ((ckI .i64 (c_1 - 56)).bind fun x_59 => (quoI .i64 x_59 49).bind fun x_60 => (ckI .i64 (c_1 - 56)).bind fun x_61 => (quoI .i64 x_61 7).bind fun x_62 => (remI .i64 x_62 7).bind fun x_63 => (ckI .i64 (c_1 - 56)).bind fun x_64 => (remI .i64 x_64 7).bind fun x_65 => some (⟨[IntKind.wrap .u8 (1 + (IntKind.wrap .u8 x_60)), IntKind.wrap .u8 (1 + (IntKind.wrap .u8 x_63)), IntKind.wrap .u8 (1 + (IntKind.wrap .u8 x_65))], some 3⟩ : Sl (Int))) else some j_32).bind fun (j_56 : (Sl (Int))) => (p9 n c_3 (0, 1, j_56, 0)).bind fun t_73 => (if (t_73.2 == 0) = true then some (decide (c_1 < 56)) else some false).bind fun q_80 => (if q_80 then ((ckI .i64 (c_1 + 1)).bind fun x_95 => (p9 n t_73.1 (0, 2, j_56, IntKind.wrap .u8 x_95)).bind fun t_98 => some (t_98.2, t_98.1)) else some (t_73.2, t_73.1)).bind fun (j_91 : (Int) × (Sl ((Sl (Int)) × Int × Int))) => (if (j_91.1 != 0) = false then (ckI .i64 (c_1 + 1)).bind fun x_108 => some ((lenI j_91.2) != x_108) else some true).bind fun q_106 => if q_106 then (some (.inr false)) else (ckI .i64 (c_1 + 1)).bind fun x_109 => p3_l1 n m x_109 j_91.2) else some (.inl c_3)
def p3 (n : Nat) (x0 : Int) : Option ((Bool)) :=
 (p3_l1 n n 0 (⟨[], some 0⟩)).bind fun (y_11 : ((Sl ((Sl (Int)) × Int × Int))) ⊕ ((Bool))) =>
 lrK y_11 some fun (s_12 : (Sl ((Sl (Int)) × Int × Int))) =>
 (p9 n s_12 (0, 1, (⟨[7, 7, 1], some 3⟩ : Sl (Int)), 0)).bind fun t_125 =>
 (ckI .i64 ((lenI s_12) - 2)).bind fun x_133 =>
 (remI .u8 x0 6).bind fun x_134 =>
 (ckI .i64 (x_133 - x_134)).bind fun x_135 =>
 (idx s_12.xs x_135).bind fun y_136 =>
 (p9 n s_12 (0, 4, y_136.1, 0)).bind fun t_152 =>
 (p9 n t_152.1 (0, 1, (⟨[7, 7, 1], some 3⟩ : Sl (Int)), 0)).bind fun t_161 =>
 (if (t_125.2 == 9) = true then some (t_152.2 == 0) else some false).bind fun q_168 =>
 (if q_168 = true then some ((lenI t_152.1) == 126) else some false).bind fun q_169 =>
 (if q_169 = true then some (t_161.2 == 0) else some false).bind fun q_171 =>
 (if q_171 = true then some ((lenI t_161.1) == 127) else some false).bind fun q_172 =>
 (if q_172 = true then (p10 n t_161.1).bind fun t_175 => some (t_175 == 0) else some false).bind fun q_174 =>
 (if q_174 = true then (p11 n).bind fun t_182 => some t_182 else some false).bind fun q_181 =>
 some q_181
set_option maxHeartbeats 4000000 in
set_option maxRecDepth 100000 in
/-- plugboard/plugboardlaw31.EventsFull -/
theorem c3 (K : Nat → Prop) (n : Nat) (w : World) (x0 : Int) (G0 : InR .u8 x0) {r : (Bool)} (h : p3 n x0 = some r) :
  Calls Try.prog 3 #[.int .u8 x0] w (Ret1 .bool w (Kx K w.heap.size []) r) := by
 refine enter (args := [.int .u8 x0]) Try.func3 rfl 151 rfl rfl fun a S => ?_
 have W := Wd.start w
 unfold p3 at h
 replace S : St 151 a [(0, .int .u8 x0)] := S
 refine wp_seq ?_
 refine wp_region_lit ?_
 refine wl_pure (l' := [(2, .bool false), (0, .int .u8 x0)]) S tys tys_ok 1 (by kernel_rfl) ?_
 clear S; intro a S
 refine wpList_nil ?_
 refine then_n ?_
 replace S := S.sub (l' := [(0, .int .u8 x0)]) (by exact ⟨rfl, trivial⟩)
 refine wp_seq ?_
 refine wp_region_lit ?_
 refine wl_pure (l' := [(3, .slice .none 0 0), (0, .int .u8 x0)]) S tys tys_ok 1 (by kernel_rfl) ?_
 clear S; intro a S
 refine wpList_nil ?_
 refine then_n ?_
 refine wp_seq ?_
 refine wp_seq ?_
 refine wp_region_lit ?_
 refine wl_pure (l' := [(4, .int .i64 0), (3, .slice .none 0 0), (0, .int .u8 x0)]) S tys tys_ok 1 (by kernel_rfl) ?_
 clear S; intro a S
 refine wpList_nil ?_
 refine then_n ?_
 obtain ⟨y_11, ey_11, h⟩ := bindS h
 refine wp_cut_ (fun a_ w_ => ∃ s_12 : (Sl ((Sl (Int)) × Int × Int)), y_11 = .inl s_12 ∧ (∃ (v_13 : Value), St 151 a_ [(0, .int .u8 x0), (3, v_13)] ∧ Wd w w_ [] ∧ RepV (.sl gt0) w_ (Kx K w.heap.size []) v_13 s_12)) ?_ ?_
 ·refine wp_block ?_
  refine wp_loop_n (fun m_ a_ w_ => ∃ (c_1 : Int) (c_3 : Sl ((Sl (Int)) × Int × Int)) , ∃ (v_4 : Value), St 151 a_ [(4, .int .i64 c_1), (3, v_4), (0, .int .u8 x0)] ∧ Wd w w_ [] ∧ InR .i64 c_1 ∧ RepV (.sl gt0) w_ (Kx K w.heap.size []) v_4 c_3 ∧ p3_l1 n m_ c_1 c_3 = some y_11) n ?_ ?_
  ·skip
   exact ⟨0, ⟨[], some 0⟩, ⟨.slice .none 0 0, S.sub (by exact ⟨rfl, rfl, rfl, trivial⟩), W, (show InR .i64 0 by decide), RepV.nil, ey_11⟩⟩
  ·clear S W; rintro m_15 a w_17 ⟨c_1, c_3, v_4, S, W, G_2, R_5, hl_16⟩
   cases m_15 with
   | zero => exact absurd hl_16 (by simp [p3_l1])
   | succ m_15 =>
    refine ⟨m_15, rfl, ?_⟩
    rw [p3_l1] at hl_16
    refine wp_seq ?_
    refine wp_seq ?_
    refine wp_region_lit ?_
    refine wl_pure (l' := [(17, .bool (decide (c_1 < 127))), (16, .int .i64 c_1), (4, .int .i64 c_1), (3, v_4), (0, .int .u8 x0)]) S tys tys_ok 2 (by kernel_rfl) ?_
    clear S; intro a S
    refine wpList_nil ?_
    refine then_n ?_
    replace S := S.sub (l' := [(17, .bool (decide (c_1 < 127))), (4, .int .i64 c_1), (3, v_4), (0, .int .u8 x0)]) (by exact ⟨rfl, rfl, rfl, rfl, trivial⟩)
    refine wp_cond_split (S.eval (show ev _ _ = some (.bool (decide (c_1 < 127))) from rfl)) ?_ ?_
    ·intro hc
     rw [if_pos hc] at hl_16
     refine wp_skip ?_
     refine then_n ?_
     replace S := S.sub (l' := [(4, .int .i64 c_1), (3, v_4), (0, .int .u8 x0)]) (by exact ⟨rfl, rfl, rfl, trivial⟩)
     refine wp_seq ?_
     refine wp_block ?_
     refine wp_seq ?_
     refine wp_region_lit ?_
     refine wl_pure (l' := [(20, .int .i64 c_1), (4, .int .i64 c_1), (3, v_4), (0, .int .u8 x0)]) S tys tys_ok 1 (by kernel_rfl) ?_
     clear S; intro a S
     obtain ⟨x_18, ex_18, hl_16⟩ := bindS hl_16
     refine w_go S rfl (op_rem S .i64 rfl rfl rfl rfl rfl ex_18 ?_)
     clear S; intro a S
     refine wl_pureK (l' := [(23, .int .u8 (IntKind.wrap .u8 (1 + (IntKind.wrap .u8 x_18)))), (4, .int .i64 c_1), (3, v_4), (0, .int .u8 x0)]) S tys tys_ok 2 [23, 4, 3, 0] (by kernel_rfl) ?_
     clear S; intro a S
     refine w_go S rfl (op_buildSlice (K := K) (e := (.int .u8)) (vs := [.int .u8 (IntKind.wrap .u8 (1 + (IntKind.wrap .u8 x_18)))]) (xs := [IntKind.wrap .u8 (1 + (IntKind.wrap .u8 x_18))]) S W rfl ty25 rfl rfl (by kernel_rfl) rfl rfl rfl rfl rfl ⟨(RepV.mkInt (inR_wrap _ _)), trivial⟩ ?_)
     clear S; intro a w_22 v_19 hb_21 R_20 S
     replace R_5 := R_5.step hb_21
     replace W := W.step hb_21
     refine wl_pure (l' := [(5, v_19), (24, v_19), (23, .int .u8 (IntKind.wrap .u8 (1 + (IntKind.wrap .u8 x_18)))), (4, .int .i64 c_1), (3, v_4), (0, .int .u8 x0)]) S tys tys_ok 1 (by kernel_rfl) ?_
     clear S; intro a S
     refine wpList_nil ?_
     refine then_n ?_
     replace S := S.sub (l' := [(5, v_19), (4, .int .i64 c_1), (3, v_4), (0, .int .u8 x0)]) (by exact ⟨rfl, rfl, rfl, rfl, trivial⟩)
     refine wp_seq ?_
     refine wp_seq ?_
     refine wp_region_lit ?_
     refine wl_pure (l' := [(26, .bool (decide (c_1 ≥ 7))), (25, .int .i64 c_1), (5, v_19), (4, .int .i64 c_1), (3, v_4), (0, .int .u8 x0)]) S tys tys_ok 2 (by kernel_rfl) ?_
     clear S; intro a S
     refine wpList_nil ?_
     refine then_n ?_
     replace S := S.sub (l' := [(26, .bool (decide (c_1 ≥ 7))), (5, v_19), (4, .int .i64 c_1), (3, v_4), (0, .int .u8 x0)]) (by exact ⟨rfl, rfl, rfl, rfl, rfl, trivial⟩)
     obtain ⟨j_32, ej_32, hl_16⟩ := bindS hl_16
     refine wp_cut_ (fun a_ w_ => ∃ (v_33 : Value), St 151 a_ [(5, v_33), (4, .int .i64 c_1), (3, v_4), (0, .int .u8 x0)] ∧ Wd w w_ [] ∧ RepV (.sl (.int .u8)) w_ (Kx K w.heap.size []) v_33 j_32 ∧ RepV (.sl gt0) w_ (Kx K w.heap.size []) v_4 c_3) ?_ ?_
     ·refine wp_cond_split (S.eval (show ev _ _ = some (.bool (decide (c_1 ≥ 7))) from rfl)) ?_ ?_
      ·intro hc
       rw [if_pos hc] at ej_32
       refine wp_region_lit ?_
       refine wl_pure (l' := [(27, .int .i64 c_1), (26, .bool (decide (c_1 ≥ 7))), (5, v_19), (4, .int .i64 c_1), (3, v_4), (0, .int .u8 x0)]) S tys tys_ok 1 (by kernel_rfl) ?_
       clear S; intro a S
       obtain ⟨x_35, ex_35, ej_32⟩ := bindS ej_32
       refine w_go S rfl (op_arith S .i64 (c_1 - 7) rfl (.inr (.inl rfl)) rfl rfl rfl rfl ex_35 ?_)
       clear S; intro a S
       obtain ⟨x_36, ex_36, ej_32⟩ := bindS ej_32
       refine w_go S rfl (op_quo S .i64 rfl rfl rfl rfl rfl ex_36 ?_)
       clear S; intro a S
       obtain ⟨x_37, ex_37, ej_32⟩ := bindS ej_32
       refine w_go S rfl (op_rem S .i64 rfl rfl rfl rfl rfl ex_37 ?_)
       clear S; intro a S
       refine wl_pureK (l' := [(33, .int .i64 c_1), (32, .int .u8 (IntKind.wrap .u8 (1 + (IntKind.wrap .u8 x_37)))), (5, v_19), (4, .int .i64 c_1), (3, v_4), (0, .int .u8 x0)]) S tys tys_ok 3 [33, 32, 5, 4, 3, 0] (by kernel_rfl) ?_
       clear S; intro a S
       obtain ⟨x_38, ex_38, ej_32⟩ := bindS ej_32
       refine w_go S rfl (op_arith S .i64 (c_1 - 7) rfl (.inr (.inl rfl)) rfl rfl rfl rfl ex_38 ?_)
       clear S; intro a S
       obtain ⟨x_39, ex_39, ej_32⟩ := bindS ej_32
       refine w_go S rfl (op_rem S .i64 rfl rfl rfl rfl rfl ex_39 ?_)
       clear S; intro a S
       refine wl_pureK (l' := [(37, .int .u8 (IntKind.wrap .u8 (1 + (IntKind.wrap .u8 x_39)))), (32, .int .u8 (IntKind.wrap .u8 (1 + (IntKind.wrap .u8 x_37)))), (5, v_19), (4, .int .i64 c_1), (3, v_4), (0, .int .u8 x0)]) S tys tys_ok 2 [37, 32, 5, 4, 3, 0] (by kernel_rfl) ?_
       clear S; intro a S
       refine w_go S rfl (op_buildSlice (K := K) (e := (.int .u8)) (vs := [.int .u8 (IntKind.wrap .u8 (1 + (IntKind.wrap .u8 x_37))), .int .u8 (IntKind.wrap .u8 (1 + (IntKind.wrap .u8 x_39)))]) (xs := [IntKind.wrap .u8 (1 + (IntKind.wrap .u8 x_37)), IntKind.wrap .u8 (1 + (IntKind.wrap .u8 x_39))]) S W rfl ty25 rfl rfl (by kernel_rfl) rfl rfl rfl rfl rfl ⟨(RepV.mkInt (inR_wrap _ _)), (RepV.mkInt (inR_wrap _ _)), trivial⟩ ?_)
       clear S; intro a w_43 v_40 hb_42 R_41 S
       replace R_20 := R_20.step hb_42
       replace R_5 := R_5.step hb_42
       replace W := W.step hb_42
       refine wl_pureK (l' := [(5, v_40), (5, v_19), (4, .int .i64 c_1), (3, v_4), (0, .int .u8 x0)]) S tys tys_ok 1 [5, 4, 3, 0] (by kernel_rfl) ?_
       clear S; intro a S
       refine wpList_nil ?_
       refine then_n ?_
       obtain rfl := Option.some.inj ej_32
       exact ⟨v_40, S.sub (by exact ⟨rfl, rfl, rfl, rfl, trivial⟩), W, R_41, R_5⟩
      ·intro hc
       rw [if_neg (Bool.eq_false_iff.1 hc)] at ej_32
       refine wp_skip ?_
       refine then_n ?_
       obtain rfl := Option.some.inj ej_32
       exact ⟨v_19, S.sub (by exact ⟨rfl, rfl, rfl, rfl, trivial⟩), W, R_20, R_5⟩
     clear S W; rintro a w_44 ⟨v_33, S, W, R_34, R_5⟩
     refine then_n ?_
     refine wp_seq ?_
     refine wp_seq ?_
     refine wp_region_lit ?_
     refine wl_pure (l' := [(40, .bool (decide (c_1 ≥ 56))), (39, .int .i64 c_1), (5, v_33), (4, .int .i64 c_1), (3, v_4), (0, .int .u8 x0)]) S tys tys_ok 2 (by kernel_rfl) ?_
     clear S; intro a S
     refine wpList_nil ?_
     refine then_n ?_
     replace S := S.sub (l' := [(40, .bool (decide (c_1 ≥ 56))), (5, v_33), (4, .int .i64 c_1), (3, v_4), (0, .int .u8 x0)]) (by exact ⟨rfl, rfl, rfl, rfl, rfl, trivial⟩)
     obtain ⟨j_56, ej_56, hl_16⟩ := bindS hl_16
     refine wp_cut_ (fun a_ w_ => ∃ (v_57 : Value), St 151 a_ [(5, v_57), (4, .int .i64 c_1), (3, v_4), (0, .int .u8 x0)] ∧ Wd w w_ [] ∧ RepV (.sl (.int .u8)) w_ (Kx K w.heap.size []) v_57 j_56 ∧ RepV (.sl gt0) w_ (Kx K w.heap.size []) v_4 c_3) ?_ ?_
     ·refine wp_cond_split (S.eval (show ev _ _ = some (.bool (decide (c_1 ≥ 56))) from rfl)) ?_ ?_
      ·intro hc
       rw [if_pos hc] at ej_56
       refine wp_region_lit ?_
       refine wl_pure (l' := [(41, .int .i64 c_1), (40, .bool (decide (c_1 ≥ 56))), (5, v_33), (4, .int .i64 c_1), (3, v_4), (0, .int .u8 x0)]) S tys tys_ok 1 (by kernel_rfl) ?_
       clear S; intro a S
       obtain ⟨x_59, ex_59, ej_56⟩ := bindS ej_56
       refine w_go S rfl (op_arith S .i64 (c_1 - 56) rfl (.inr (.inl rfl)) rfl rfl rfl rfl ex_59 ?_)
       clear S; intro a S
       obtain ⟨x_60, ex_60, ej_56⟩ := bindS ej_56
       refine w_go S rfl (op_quo S .i64 rfl rfl rfl rfl rfl ex_60 ?_)
       clear S; intro a S
       refine wl_pureK (l' := [(46, .int .i64 c_1), (45, .int .u8 (IntKind.wrap .u8 (1 + (IntKind.wrap .u8 x_60)))), (5, v_33), (4, .int .i64 c_1), (3, v_4), (0, .int .u8 x0)]) S tys tys_ok 3 [46, 45, 5, 4, 3, 0] (by kernel_rfl) ?_
       clear S; intro a S
       obtain ⟨x_61, ex_61, ej_56⟩ := bindS ej_56
       refine w_go S rfl (op_arith S .i64 (c_1 - 56) rfl (.inr (.inl rfl)) rfl rfl rfl rfl ex_61 ?_)
       clear S; intro a S
       obtain ⟨x_62, ex_62, ej_56⟩ := bindS ej_56
       refine w_go S rfl (op_quo S .i64 rfl rfl rfl rfl rfl ex_62 ?_)
       clear S; intro a S
       obtain ⟨x_63, ex_63, ej_56⟩ := bindS ej_56
       refine w_go S rfl (op_rem S .i64 rfl rfl rfl rfl rfl ex_63 ?_)
       clear S; intro a S
       refine wl_pureK (l' := [(52, .int .i64 c_1), (51, .int .u8 (IntKind.wrap .u8 (1 + (IntKind.wrap .u8 x_63)))), (45, .int .u8 (IntKind.wrap .u8 (1 + (IntKind.wrap .u8 x_60)))), (5, v_33), (4, .int .i64 c_1), (3, v_4), (0, .int .u8 x0)]) S tys tys_ok 3 [52, 51, 45, 5, 4, 3, 0] (by kernel_rfl) ?_
       clear S; intro a S
       obtain ⟨x_64, ex_64, ej_56⟩ := bindS ej_56
       refine w_go S rfl (op_arith S .i64 (c_1 - 56) rfl (.inr (.inl rfl)) rfl rfl rfl rfl ex_64 ?_)
       clear S; intro a S
       obtain ⟨x_65, ex_65, ej_56⟩ := bindS ej_56
       refine w_go S rfl (op_rem S .i64 rfl rfl rfl rfl rfl ex_65 ?_)
       clear S; intro a S
       refine wl_pureK (l' := [(56, .int .u8 (IntKind.wrap .u8 (1 + (IntKind.wrap .u8 x_65)))), (51, .int .u8 (IntKind.wrap .u8 (1 + (IntKind.wrap .u8 x_63)))), (45, .int .u8 (IntKind.wrap .u8 (1 + (IntKind.wrap .u8 x_60)))), (5, v_33), (4, .int .i64 c_1), (3, v_4), (0, .int .u8 x0)]) S tys tys_ok 2 [56, 51, 45, 5, 4, 3, 0] (by kernel_rfl) ?_
       clear S; intro a S
       refine w_go S rfl (op_buildSlice (K := K) (e := (.int .u8)) (vs := [.int .u8 (IntKind.wrap .u8 (1 + (IntKind.wrap .u8 x_60))), .int .u8 (IntKind.wrap .u8 (1 + (IntKind.wrap .u8 x_63))), .int .u8 (IntKind.wrap .u8 (1 + (IntKind.wrap .u8 x_65)))]) (xs := [IntKind.wrap .u8 (1 + (IntKind.wrap .u8 x_60)), IntKind.wrap .u8 (1 + (IntKind.wrap .u8 x_63)), IntKind.wrap .u8 (1 + (IntKind.wrap .u8 x_65))]) S W rfl ty25 rfl rfl (by kernel_rfl) rfl rfl rfl rfl rfl ⟨(RepV.mkInt (inR_wrap _ _)), (RepV.mkInt (inR_wrap _ _)), (RepV.mkInt (inR_wrap _ _)), trivial⟩ ?_)
       clear S; intro a w_69 v_66 hb_68 R_67 S
       replace R_34 := R_34.step hb_68
       replace R_5 := R_5.step hb_68
       replace W := W.step hb_68
       refine wl_pureK (l' := [(5, v_66), (5, v_33), (4, .int .i64 c_1), (3, v_4), (0, .int .u8 x0)]) S tys tys_ok 1 [5, 4, 3, 0] (by kernel_rfl) ?_
       clear S; intro a S
       refine wpList_nil ?_
       refine then_n ?_
       obtain rfl := Option.some.inj ej_56
       exact ⟨v_66, S.sub (by exact ⟨rfl, rfl, rfl, rfl, trivial⟩), W, R_67, R_5⟩
      ·intro hc
       rw [if_neg (Bool.eq_false_iff.1 hc)] at ej_56
       refine wp_skip ?_
       refine then_n ?_
       obtain rfl := Option.some.inj ej_56
       exact ⟨v_33, S.sub (by exact ⟨rfl, rfl, rfl, rfl, trivial⟩), W, R_34, R_5⟩
     clear S W; rintro a w_70 ⟨v_57, S, W, R_58, R_5⟩
     refine then_n ?_
     refine wp_seq ?_
     refine wp_region_lit ?_
     refine wl_pure (l' := [(60, v_57), (59, v_4), (5, v_57), (4, .int .i64 c_1), (3, v_4), (0, .int .u8 x0)]) S tys tys_ok 2 (by kernel_rfl) ?_
     clear S; intro a S
     refine w_go S rfl (op_build (K := (Kx K w.heap.size [])) (f := gf2) (z0 := (0, 0, ⟨[], some 0⟩, 0)) (x := (0, 1, j_56, 0)) (vs := [.int .u8 1, v_57]) S _ rfl ty31 z31 (fun w K => ⟨[.int .i64 0], [.int .u8 0, .slice .none 0 0, .int .u8 0], rfl, ⟨rfl, by decide⟩, ⟨[.int .u8 0], [.slice .none 0 0, .int .u8 0], rfl, ⟨rfl, by decide⟩, ⟨[.slice .none 0 0], [.int .u8 0], rfl, ⟨.none, 0, 0, rfl, rfl, Nat.le_refl _, by decide, fun k h => Option.some.inj h, .inl rfl⟩, ⟨rfl, by decide⟩⟩⟩⟩) rfl rfl rfl [(1, .int .u8 1), (2, v_57)] rfl ⟨_, (RepV.mkInt (by decide)), rfl, rfl, ⟨_, R_58, rfl, rfl, rfl⟩⟩ ?_)
     clear S; intro a v_71 R_72 S
     obtain ⟨t_73, et_73, hl_16⟩ := bindS hl_16
     refine w_go S rfl (op_call (vs := [v_4, v_71]) S rfl cb9 rfl rfl rfl (c9 (Kx K w.heap.size []) n w_70 c_3 _ R_5 (0, 1, j_56, 0) _ R_72 et_73) ?_)
     rintro _ w_79 ⟨v_74, v_75, rfl, R_76, R_77, hb_78⟩; refine ⟨_, rfl, ?_⟩
     replace R_76 := RepV.back R_76 W
     replace R_77 := RepV.back R_77 W
     clear S; intro a S
     replace R_58 := R_58.step hb_78
     replace R_5 := R_5.step hb_78
     replace R_72 := R_72.step hb_78
     replace W := W.step hb_78
     obtain ⟨rfl, GR_77⟩ := RepV.int R_77
     refine wl_pureK (l' := [(7, .int .i64 t_73.2), (6, v_74), (5, v_57), (4, .int .i64 c_1), (0, .int .u8 x0)]) S tys tys_ok 5 [7, 6, 5, 4, 0] (by kernel_rfl) ?_
     clear S; intro a S
     refine wpList_nil ?_
     refine then_n ?_
     refine wp_seq ?_
     refine wp_seq ?_
     refine wp_region_lit ?_
     refine wl_pure (l' := [(67, .bool (t_73.2 == 0)), (66, .bool (t_73.2 == 0)), (65, .int .i64 t_73.2), (7, .int .i64 t_73.2), (6, v_74), (5, v_57), (4, .int .i64 c_1), (0, .int .u8 x0)]) S tys tys_ok 3 (by kernel_rfl) ?_
     clear S; intro a S
     obtain ⟨q_80, eq_80, hl_16⟩ := bindS hl_16
     refine seg 3 (fun a_ w_ => w_79 = w_ ∧ St 151 a_ [(70, .bool q_80), (7, .int .i64 t_73.2), (6, v_74), (5, v_57), (4, .int .i64 c_1), (0, .int .u8 x0)]) ?_ ?_
     ·by_cases hc : (t_73.2 == 0) = true
      ·rw [if_pos hc] at eq_80; rw [hc] at S
       refine wl_pureK (l' := [(70, .bool (decide (c_1 < 56))), (69, .bool (decide (c_1 < 56))), (68, .int .i64 c_1), (7, .int .i64 t_73.2), (6, v_74), (5, v_57), (4, .int .i64 c_1), (0, .int .u8 x0)]) S tys tys_ok 3 [70, 69, 68, 7, 6, 5, 4, 0] (by kernel_rfl) ?_
       clear S; intro a S
       obtain rfl := Option.some.inj eq_80
       exact ⟨rfl, S.sub (by exact ⟨rfl, rfl, rfl, rfl, rfl, rfl, trivial⟩)⟩
      ·rw [if_neg hc] at eq_80; rw [show (t_73.2 == 0) = false from Bool.eq_false_iff.2 hc] at S
       refine wl_pureK (l' := [(70, .bool false), (69, undef), (68, undef), (7, .int .i64 t_73.2), (6, v_74), (5, v_57), (4, .int .i64 c_1), (0, .int .u8 x0)]) S tys tys_ok 3 [70, 69, 68, 7, 6, 5, 4, 0] (by kernel_rfl) ?_
       clear S; intro a S
       obtain rfl := Option.some.inj eq_80
       exact ⟨rfl, S.sub (by exact ⟨rfl, rfl, rfl, rfl, rfl, rfl, trivial⟩)⟩
     clear S eq_80; rintro a _ ⟨rfl, S⟩
     refine wpList_nil ?_
     refine then_n ?_
     obtain ⟨j_91, ej_91, hl_16⟩ := bindS hl_16
     refine wp_cut_ (fun a_ w_ => ∃ (v_93 : Value), St 151 a_ [(7, .int .i64 j_91.1), (6, v_93), (4, .int .i64 c_1), (0, .int .u8 x0)] ∧ Wd w w_ [] ∧ InR .i64 j_91.1 ∧ RepV (.sl gt0) w_ (Kx K w.heap.size []) v_93 j_91.2) ?_ ?_
     ·refine wp_cond_split (S.eval (show ev _ _ = some (.bool q_80) from rfl)) ?_ ?_
      ·intro hc
       rw [if_pos hc] at ej_91
       refine wp_region_lit ?_
       refine wl_pure (l' := [(74, .int .i64 c_1), (73, v_57), (72, v_74), (70, .bool q_80), (7, .int .i64 t_73.2), (6, v_74), (5, v_57), (4, .int .i64 c_1), (0, .int .u8 x0)]) S tys tys_ok 3 (by kernel_rfl) ?_
       clear S; intro a S
       obtain ⟨x_95, ex_95, ej_91⟩ := bindS ej_91
       refine w_go S rfl (op_arith S .i64 (c_1 + 1) rfl (.inl rfl) rfl rfl rfl rfl ex_95 ?_)
       clear S; intro a S
       refine wl_pureK (l' := [(76, .int .u8 (IntKind.wrap .u8 x_95)), (73, v_57), (72, v_74), (7, .int .i64 t_73.2), (6, v_74), (4, .int .i64 c_1), (0, .int .u8 x0)]) S tys tys_ok 1 [76, 73, 72, 7, 6, 4, 0] (by kernel_rfl) ?_
       clear S; intro a S
       refine w_go S rfl (op_build (K := (Kx K w.heap.size [])) (f := gf2) (z0 := (0, 0, ⟨[], some 0⟩, 0)) (x := (0, 2, j_56, IntKind.wrap .u8 x_95)) (vs := [.int .u8 2, v_57, .int .u8 (IntKind.wrap .u8 x_95)]) S _ rfl ty31 z31 (fun w K => ⟨[.int .i64 0], [.int .u8 0, .slice .none 0 0, .int .u8 0], rfl, ⟨rfl, by decide⟩, ⟨[.int .u8 0], [.slice .none 0 0, .int .u8 0], rfl, ⟨rfl, by decide⟩, ⟨[.slice .none 0 0], [.int .u8 0], rfl, ⟨.none, 0, 0, rfl, rfl, Nat.le_refl _, by decide, fun k h => Option.some.inj h, .inl rfl⟩, ⟨rfl, by decide⟩⟩⟩⟩) rfl rfl rfl [(1, .int .u8 2), (2, v_57), (3, .int .u8 (IntKind.wrap .u8 x_95))] rfl ⟨_, (RepV.mkInt (by decide)), rfl, rfl, ⟨_, R_58, rfl, rfl, ⟨_, (RepV.mkInt (inR_wrap _ _)), rfl, rfl, rfl⟩⟩⟩ ?_)
       clear S; intro a v_96 R_97 S
       obtain ⟨t_98, et_98, ej_91⟩ := bindS ej_91
       refine w_go S rfl (op_call (vs := [v_74, v_96]) S rfl cb9 rfl rfl rfl (c9 (Kx K w.heap.size []) n w_79 t_73.1 _ R_76 (0, 2, j_56, IntKind.wrap .u8 x_95) _ R_97 et_98) ?_)
       rintro _ w_104 ⟨v_99, v_100, rfl, R_101, R_102, hb_103⟩; refine ⟨_, rfl, ?_⟩
       replace R_101 := RepV.back R_101 W
       replace R_102 := RepV.back R_102 W
       clear S; intro a S
       replace R_76 := R_76.step hb_103
       replace R_58 := R_58.step hb_103
       replace R_97 := R_97.step hb_103
       replace W := W.step hb_103
       obtain ⟨rfl, GR_102⟩ := RepV.int R_102
       refine wl_pureK (l' := [(7, .int .i64 t_98.2), (6, v_99), (7, .int .i64 t_73.2), (6, v_74), (4, .int .i64 c_1), (0, .int .u8 x0)]) S tys tys_ok 5 [7, 6, 4, 0] (by kernel_rfl) ?_
       clear S; intro a S
       refine wpList_nil ?_
       refine then_n ?_
       obtain rfl := Option.some.inj ej_91
       exact ⟨v_99, S.sub (by exact ⟨rfl, rfl, rfl, rfl, trivial⟩), W, GR_102, R_101⟩
      ·intro hc
       rw [if_neg (Bool.eq_false_iff.1 hc)] at ej_91
       refine wp_skip ?_
       refine then_n ?_
       obtain rfl := Option.some.inj ej_91
       exact ⟨v_74, S.sub (by exact ⟨rfl, rfl, rfl, rfl, trivial⟩), W, GR_77, R_76⟩
     clear S W; rintro a w_105 ⟨v_93, S, W, G_92, R_94⟩
     refine then_n ?_
     refine wp_seq ?_
     refine wp_seq ?_
     refine wp_region_lit ?_
     refine wl_pureK (l' := [(83, .bool (j_91.1 != 0)), (6, v_93), (4, .int .i64 c_1), (0, .int .u8 x0)]) S tys tys_ok 3 [83, 6, 4, 0] (by kernel_rfl) ?_
     clear S; intro a S
     obtain ⟨q_106, eq_106, hl_16⟩ := bindS hl_16
     refine seg 6 (fun a_ w_ => w_105 = w_ ∧ St 151 a_ [(89, .bool q_106), (6, v_93), (4, .int .i64 c_1), (0, .int .u8 x0)]) ?_ ?_
     ·by_cases hc : (j_91.1 != 0) = false
      ·rw [if_pos hc] at eq_106; rw [hc] at S
       refine wl_pure (l' := [(84, v_93), (83, .bool false), (6, v_93), (4, .int .i64 c_1), (0, .int .u8 x0)]) S tys tys_ok 1 (by kernel_rfl) ?_
       clear S; intro a S
       refine w_go S rfl (op_len (K := _) S rfl ty23 rfl rfl rfl R_94 ?_)
       clear S; intro a G_107 S
       refine wl_pure (l' := [(86, .int .i64 c_1), (85, .int .i64 (lenI j_91.2)), (84, v_93), (83, .bool false), (6, v_93), (4, .int .i64 c_1), (0, .int .u8 x0)]) S tys tys_ok 1 (by kernel_rfl) ?_
       clear S; intro a S
       obtain ⟨x_108, ex_108, eq_106⟩ := bindS eq_106
       refine w_go S rfl (op_arith S .i64 (c_1 + 1) rfl (.inl rfl) rfl rfl rfl rfl ex_108 ?_)
       clear S; intro a S
       refine wl_pure (l' := [(89, .bool ((lenI j_91.2) != x_108)), (88, .bool ((lenI j_91.2) != x_108)), (87, .int .i64 x_108), (86, .int .i64 c_1), (85, .int .i64 (lenI j_91.2)), (84, v_93), (83, .bool false), (6, v_93), (4, .int .i64 c_1), (0, .int .u8 x0)]) S tys tys_ok 2 (by kernel_rfl) ?_
       clear S; intro a S
       obtain rfl := Option.some.inj eq_106
       exact ⟨rfl, S.sub (by exact ⟨rfl, rfl, rfl, rfl, trivial⟩)⟩
      ·rw [if_neg hc] at eq_106; rw [show (j_91.1 != 0) = true from (by simpa using hc)] at S
       refine wl_pure (l' := [(89, .bool true), (88, undef), (87, undef), (86, undef), (85, undef), (84, undef), (83, .bool true), (6, v_93), (4, .int .i64 c_1), (0, .int .u8 x0)]) S tys tys_ok 6 (by kernel_rfl) ?_
       clear S; intro a S
       obtain rfl := Option.some.inj eq_106
       exact ⟨rfl, S.sub (by exact ⟨rfl, rfl, rfl, rfl, trivial⟩)⟩
     clear S eq_106; rintro a _ ⟨rfl, S⟩
     refine wpList_nil ?_
     refine then_n ?_
     refine wp_cond_split (S.eval (show ev _ _ = some (.bool q_106) from rfl)) ?_ ?_
     ·intro hc
      rw [if_pos hc] at hl_16
      refine wp_seq ?_
      refine wp_region_lit ?_
      refine wl_pureK (l' := [(2, .bool false)]) S tys tys_ok 1 [2] (by kernel_rfl) ?_
      clear S; intro a S
      refine wpList_nil ?_
      refine then_n ?_
      refine wp_ret ?_
      refine then_r ?_
      refine blk_r ?_
      refine then_r ?_
      refine then_r ?_
      refine blk_r ?_
      refine then_r ?_
      refine then_r ?_
      obtain rfl := Option.some.inj hl_16
      obtain rfl := lr_inr h
      exact b_ret1 S rfl rfl ⟨_, rfl, RepV.mkBool, W.below⟩
     ·intro hc
      rw [if_neg (Bool.eq_false_iff.1 hc)] at hl_16
      refine wp_skip ?_
      refine then_n ?_
      replace S := S.sub (l' := [(6, v_93), (4, .int .i64 c_1), (0, .int .u8 x0)]) (by exact ⟨rfl, rfl, rfl, trivial⟩)
      refine wp_region_lit ?_
      refine wl_pure (l' := [(3, v_93), (90, v_93), (6, v_93), (4, .int .i64 c_1), (0, .int .u8 x0)]) S tys tys_ok 2 (by kernel_rfl) ?_
      clear S; intro a S
      refine wpList_nil ?_
      refine blk_n ?_
      refine then_n ?_
      replace S := S.sub (l' := [(3, v_93), (4, .int .i64 c_1), (0, .int .u8 x0)]) (by exact ⟨rfl, rfl, rfl, trivial⟩)
      refine wp_region_lit ?_
      refine wl_pure (l' := [(18, .int .i64 c_1), (3, v_93), (4, .int .i64 c_1), (0, .int .u8 x0)]) S tys tys_ok 1 (by kernel_rfl) ?_
      clear S; intro a S
      obtain ⟨x_109, ex_109, hl_16⟩ := bindS hl_16
      refine w_go S rfl (op_arith S .i64 (c_1 + 1) rfl (.inl rfl) rfl rfl rfl rfl ex_109 ?_)
      clear S; intro a S
      refine wl_pure (l' := [(4, .int .i64 x_109), (19, .int .i64 x_109), (18, .int .i64 c_1), (3, v_93), (4, .int .i64 c_1), (0, .int .u8 x0)]) S tys tys_ok 1 (by kernel_rfl) ?_
      clear S; intro a S
      refine wpList_nil ?_
      refine then_n ?_
      exact ⟨x_109, j_91.2, ⟨v_93, S.sub (by exact ⟨rfl, rfl, rfl, trivial⟩), W, (ckI_some ex_109).2.1, R_94, hl_16⟩⟩
    ·intro hc
     rw [if_neg (Bool.eq_false_iff.1 hc)] at hl_16
     refine wp_exit ?_
     refine then_x ?_
     refine then_x ?_
     refine blk_hit ?_
     refine then_n ?_
     obtain rfl := Option.some.inj hl_16
     exact ⟨_, rfl, ⟨v_4, S.sub (by exact ⟨rfl, rfl, trivial⟩), W, R_5⟩⟩
 clear S W; rintro a w_110 ⟨s_12, rfl, v_13, S, W, R_14⟩
 replace h := lr_inl h; try dsimp only at h
 refine then_n ?_
 refine wp_seq ?_
 refine wp_region_lit ?_
 refine w_go S rfl (op_buildSlice (K := K) (e := (.int .u8)) (vs := [.int .u8 7, .int .u8 7, .int .u8 1]) (xs := [7, 7, 1]) S W rfl ty25 rfl rfl (by kernel_rfl) rfl rfl rfl rfl rfl ⟨(RepV.mkInt (by decide)), (RepV.mkInt (by decide)), (RepV.mkInt (by decide)), trivial⟩ ?_)
 clear S; intro a w_114 v_111 hb_113 R_112 S
 replace R_14 := R_14.step hb_113
 replace W := W.step hb_113
 refine w_go S rfl (op_build (K := (Kx K w.heap.size [])) (f := gf2) (z0 := (0, 0, ⟨[], some 0⟩, 0)) (x := (0, 1, (⟨[7, 7, 1], some 3⟩ : Sl (Int)), 0)) (vs := [.int .u8 1, v_111]) S _ rfl ty31 z31 (fun w K => ⟨[.int .i64 0], [.int .u8 0, .slice .none 0 0, .int .u8 0], rfl, ⟨rfl, by decide⟩, ⟨[.int .u8 0], [.slice .none 0 0, .int .u8 0], rfl, ⟨rfl, by decide⟩, ⟨[.slice .none 0 0], [.int .u8 0], rfl, ⟨.none, 0, 0, rfl, rfl, Nat.le_refl _, by decide, fun k h => Option.some.inj h, .inl rfl⟩, ⟨rfl, by decide⟩⟩⟩⟩) rfl rfl rfl [(1, .int .u8 1), (2, v_111)] rfl ⟨_, (RepV.mkInt (by decide)), rfl, rfl, ⟨_, R_112, rfl, rfl, rfl⟩⟩ ?_)
 clear S; intro a v_115 R_116 S
 refine w_go S rfl (op_alloc (K := K) (n := w.heap.size) (L := []) (t := gt2) (y := (0, 0, ⟨[], some 0⟩, 0)) S rfl rfl rfl _ z31 (fun w K => ⟨[.int .i64 0], [.int .u8 0, .slice .none 0 0, .int .u8 0], rfl, ⟨rfl, by decide⟩, ⟨[.int .u8 0], [.slice .none 0 0, .int .u8 0], rfl, ⟨rfl, by decide⟩, ⟨[.slice .none 0 0], [.int .u8 0], rfl, ⟨.none, 0, 0, rfl, rfl, Nat.le_refl _, by decide, fun k h => Option.some.inj h, .inl rfl⟩, ⟨rfl, by decide⟩⟩⟩⟩) ?_)
 clear S; intro a w_119 b_117 hb_120 B_118 S
 replace R_14 := R_14.box hb_120
 replace R_112 := R_112.box hb_120
 replace R_116 := R_116.box hb_120
 replace W := W.box hb_120
 refine w_go S rfl (op_store (t' := gt2) S rfl rfl ty31 rfl rfl rfl B_118 (by simp) Ln.whole R_116 ?_)
 intro w_121 hw_122 B_
 replace R_14 := R_14.wrote hw_122 (by simp)
 replace R_112 := R_112.wrote hw_122 (by simp)
 replace R_116 := R_116.wrote hw_122 (by simp)
 replace W := W.wrote hw_122 (by simp)
 replace B_118 : Bx gt2 31 w_121 (Kx K w.heap.size [some b_117]) b_117 (0, 1, (⟨[7, 7, 1], some 3⟩ : Sl (Int)), 0) := B_; clear B_
 refine wpList_nil ?_
 refine then_n ?_
 replace S := S.sub (l' := [(8, pB b_117), (0, .int .u8 x0), (3, v_13)]) (by exact ⟨rfl, rfl, rfl, trivial⟩)
 refine wp_seq ?_
 refine wp_region_lit ?_
 refine wl_pure (l' := [(94, v_13), (8, pB b_117), (0, .int .u8 x0), (3, v_13)]) S tys tys_ok 1 (by kernel_rfl) ?_
 clear S; intro a S
 refine w_go S rfl (op_load (t := gt2) (x := (0, 1, (⟨[7, 7, 1], some 3⟩ : Sl (Int)), 0)) S rfl ty31 rfl rfl rfl B_118.at_ ?_)
 clear S; intro a v_123 R_124 S
 obtain ⟨t_125, et_125, h⟩ := bindS h
 refine w_go S rfl (op_call (vs := [v_13, v_123]) S rfl cb9 rfl rfl rfl (c9 (Kx K w.heap.size [some b_117]) n w_121 s_12 _ R_14 (0, 1, (⟨[7, 7, 1], some 3⟩ : Sl (Int)), 0) _ R_124 et_125) ?_)
 rintro _ w_131 ⟨v_126, v_127, rfl, R_128, R_129, hb_130⟩; refine ⟨_, rfl, ?_⟩
 replace R_128 := RepV.back R_128 W
 replace R_129 := RepV.back R_129 W
 clear S; intro a S
 replace R_14 := R_14.step hb_130
 replace R_124 := R_124.step hb_130
 replace B_118 := B_118.step hb_130
 replace W := W.step hb_130
 obtain ⟨rfl, GR_129⟩ := RepV.int R_129
 refine wl_pureK (l' := [(10, .int .i64 t_125.2), (8, pB b_117), (0, .int .u8 x0), (3, v_13)]) S tys tys_ok 5 [10, 8, 0, 3] (by kernel_rfl) ?_
 clear S; intro a S
 refine wpList_nil ?_
 refine then_n ?_
 refine wp_seq ?_
 refine wp_region_lit ?_
 refine wl_pure (l' := [(100, v_13), (99, v_13), (10, .int .i64 t_125.2), (8, pB b_117), (0, .int .u8 x0), (3, v_13)]) S tys tys_ok 2 (by kernel_rfl) ?_
 clear S; intro a S
 refine w_go S rfl (op_len (K := _) S rfl ty23 rfl rfl rfl R_14 ?_)
 clear S; intro a G_132 S
 obtain ⟨x_133, ex_133, h⟩ := bindS h
 refine w_go S rfl (op_arith S .i64 ((lenI s_12) - 2) rfl (.inr (.inl rfl)) rfl rfl rfl rfl ex_133 ?_)
 clear S; intro a S
 refine wl_pureK (l' := [(103, .int .u8 x0), (102, .int .i64 x_133), (99, v_13), (10, .int .i64 t_125.2), (8, pB b_117), (3, v_13)]) S tys tys_ok 1 [103, 102, 99, 10, 8, 3] (by kernel_rfl) ?_
 clear S; intro a S
 obtain ⟨x_134, ex_134, h⟩ := bindS h
 refine w_go S rfl (op_rem S .u8 rfl rfl rfl rfl rfl ex_134 ?_)
 clear S; intro a S
 refine w_go S rfl (op_conv S .i64 .bool .bool rfl ty5 ty3 rfl rfl rfl (widen (inR_rem ex_134) (by decide)).1 ?_)
 clear S; intro a S
 obtain ⟨x_135, ex_135, h⟩ := bindS h
 refine w_go S rfl (op_arith S .i64 (x_133 - x_134) rfl (.inr (.inl rfl)) rfl rfl rfl rfl ex_135 ?_)
 clear S; intro a S
 obtain ⟨y_136, ey_136, h⟩ := bindS h
 refine w_go S rfl (op_indexAddr S rfl ty23 rfl rfl rfl R_14 rfl ey_136 ?_)
 clear S; intro a p_137 R_138 H_139 S
 refine w_go S rfl (op_load (t := gt0) (x := y_136) S rfl ty33 rfl rfl rfl R_138 ?_)
 clear S; intro a v_140 R_141 S
 refine w_go S rfl (op_alloc (K := K) (n := w.heap.size) (L := [some b_117]) (t := gt0) (y := (⟨[], some 0⟩, 0, 0)) S rfl rfl rfl _ z33 (fun w K => ⟨[.slice .none 0 0], [.int .u8 0, .int .u8 0], rfl, ⟨.none, 0, 0, rfl, rfl, Nat.le_refl _, by decide, fun k h => Option.some.inj h, .inl rfl⟩, ⟨[.int .u8 0], [.int .u8 0], rfl, ⟨rfl, by decide⟩, ⟨rfl, by decide⟩⟩⟩) ?_)
 clear S; intro a w_144 b_142 hb_145 B_143 S
 replace R_14 := R_14.box hb_145
 replace R_141 := R_141.box hb_145
 replace B_118 := B_118.box hb_145
 replace W := W.box hb_145
 refine w_go S rfl (op_store (t' := gt0) S rfl rfl ty33 rfl rfl rfl B_143 (by simp) Ln.whole R_141 ?_)
 intro w_146 hw_147 B_
 replace R_14 := R_14.wrote hw_147 (by simp)
 replace R_141 := R_141.wrote hw_147 (by simp)
 replace B_118 := B_118.wrote hw_147 (by simp) (W.bne (p := 1) (q := 0) (by decide) rfl rfl)
 replace W := W.wrote hw_147 (by simp)
 replace B_143 : Bx gt0 33 w_146 (Kx K w.heap.size [some b_142, some b_117]) b_142 y_136 := B_; clear B_
 refine wpList_nil ?_
 refine then_n ?_
 replace S := S.sub (l' := [(11, pB b_142), (10, .int .i64 t_125.2), (8, pB b_117), (3, v_13)]) (by exact ⟨rfl, rfl, rfl, rfl, trivial⟩)
 refine wp_seq ?_
 refine wp_region_lit ?_
 refine wl_pure (l' := [(111, .pointer (some ((⟨b_142, 0, .none⟩ : Addr).add (coff gf0 0)))), (110, v_13), (11, pB b_142), (10, .int .i64 t_125.2), (8, pB b_117), (3, v_13)]) S tys tys_ok 2 (by kernel_rfl) ?_
 clear S; intro a S
 refine w_go S rfl (op_load (t := (.sl (.int .u8))) (x := y_136.1) S rfl ty25 rfl rfl rfl (RepAt.add 0 (RepAt.st (t := gf0) B_143.at_)) ?_)
 clear S; intro a v_148 R_149 S
 refine w_go S rfl (op_build (K := (Kx K w.heap.size [some b_142, some b_117])) (f := gf2) (z0 := (0, 0, ⟨[], some 0⟩, 0)) (x := (0, 4, y_136.1, 0)) (vs := [.int .u8 4, v_148]) S _ rfl ty31 z31 (fun w K => ⟨[.int .i64 0], [.int .u8 0, .slice .none 0 0, .int .u8 0], rfl, ⟨rfl, by decide⟩, ⟨[.int .u8 0], [.slice .none 0 0, .int .u8 0], rfl, ⟨rfl, by decide⟩, ⟨[.slice .none 0 0], [.int .u8 0], rfl, ⟨.none, 0, 0, rfl, rfl, Nat.le_refl _, by decide, fun k h => Option.some.inj h, .inl rfl⟩, ⟨rfl, by decide⟩⟩⟩⟩) rfl rfl rfl [(1, .int .u8 4), (2, v_148)] rfl ⟨_, (RepV.mkInt (by decide)), rfl, rfl, ⟨_, R_149, rfl, rfl, rfl⟩⟩ ?_)
 clear S; intro a v_150 R_151 S
 obtain ⟨t_152, et_152, h⟩ := bindS h
 refine w_go S rfl (op_call (vs := [v_13, v_150]) S rfl cb9 rfl rfl rfl (c9 (Kx K w.heap.size [some b_142, some b_117]) n w_146 s_12 _ R_14 (0, 4, y_136.1, 0) _ R_151 et_152) ?_)
 rintro _ w_158 ⟨v_153, v_154, rfl, R_155, R_156, hb_157⟩; refine ⟨_, rfl, ?_⟩
 replace R_155 := RepV.back R_155 W
 replace R_156 := RepV.back R_156 W
 clear S; intro a S
 replace R_14 := R_14.step hb_157
 replace R_149 := R_149.step hb_157
 replace R_151 := R_151.step hb_157
 replace B_118 := B_118.step hb_157
 replace B_143 := B_143.step hb_157
 replace W := W.step hb_157
 obtain ⟨rfl, GR_156⟩ := RepV.int R_156
 refine wl_pureK (l' := [(13, .int .i64 t_152.2), (12, v_153), (10, .int .i64 t_125.2), (8, pB b_117)]) S tys tys_ok 5 [13, 12, 10, 8] (by kernel_rfl) ?_
 clear S; intro a S
 refine wpList_nil ?_
 refine then_n ?_
 refine wp_seq ?_
 refine wp_region_lit ?_
 refine wl_pure (l' := [(118, v_153), (13, .int .i64 t_152.2), (12, v_153), (10, .int .i64 t_125.2), (8, pB b_117)]) S tys tys_ok 1 (by kernel_rfl) ?_
 clear S; intro a S
 refine w_go S rfl (op_load (t := gt2) (x := (0, 1, (⟨[7, 7, 1], some 3⟩ : Sl (Int)), 0)) S rfl ty31 rfl rfl rfl B_118.at_ ?_)
 clear S; intro a v_159 R_160 S
 obtain ⟨t_161, et_161, h⟩ := bindS h
 refine w_go S rfl (op_call (vs := [v_153, v_159]) S rfl cb9 rfl rfl rfl (c9 (Kx K w.heap.size [some b_142, some b_117]) n w_158 t_152.1 _ R_155 (0, 1, (⟨[7, 7, 1], some 3⟩ : Sl (Int)), 0) _ R_160 et_161) ?_)
 rintro _ w_167 ⟨v_162, v_163, rfl, R_164, R_165, hb_166⟩; refine ⟨_, rfl, ?_⟩
 replace R_164 := RepV.back R_164 W
 replace R_165 := RepV.back R_165 W
 clear S; intro a S
 replace R_155 := R_155.step hb_166
 replace R_160 := R_160.step hb_166
 replace B_118 := B_118.step hb_166
 replace B_143 := B_143.step hb_166
 replace W := W.step hb_166
 obtain ⟨rfl, GR_165⟩ := RepV.int R_165
 refine wl_pureK (l' := [(15, .int .i64 t_161.2), (14, v_162), (13, .int .i64 t_152.2), (12, v_153), (10, .int .i64 t_125.2)]) S tys tys_ok 5 [15, 14, 13, 12, 10] (by kernel_rfl) ?_
 clear S; intro a S
 refine wpList_nil ?_
 refine then_n ?_
 refine wp_seq ?_
 refine wp_region_lit ?_
 refine wl_pureK (l' := [(125, .bool (t_125.2 == 9)), (15, .int .i64 t_161.2), (14, v_162), (13, .int .i64 t_152.2), (12, v_153)]) S tys tys_ok 3 [125, 15, 14, 13, 12] (by kernel_rfl) ?_
 clear S; intro a S
 obtain ⟨q_168, eq_168, h⟩ := bindS h
 refine seg 3 (fun a_ w_ => w_167 = w_ ∧ St 151 a_ [(128, .bool q_168), (15, .int .i64 t_161.2), (14, v_162), (12, v_153)]) ?_ ?_
 ·by_cases hc : (t_125.2 == 9) = true
  ·rw [if_pos hc] at eq_168; rw [hc] at S
   refine wl_pureK (l' := [(128, .bool (t_152.2 == 0)), (15, .int .i64 t_161.2), (14, v_162), (12, v_153)]) S tys tys_ok 3 [128, 15, 14, 12] (by kernel_rfl) ?_
   clear S; intro a S
   obtain rfl := Option.some.inj eq_168
   exact ⟨rfl, S.sub (by exact ⟨rfl, rfl, rfl, rfl, trivial⟩)⟩
  ·rw [if_neg hc] at eq_168; rw [show (t_125.2 == 9) = false from Bool.eq_false_iff.2 hc] at S
   refine wl_pureK (l' := [(128, .bool false), (15, .int .i64 t_161.2), (14, v_162), (12, v_153)]) S tys tys_ok 3 [128, 15, 14, 12] (by kernel_rfl) ?_
   clear S; intro a S
   obtain rfl := Option.some.inj eq_168
   exact ⟨rfl, S.sub (by exact ⟨rfl, rfl, rfl, rfl, trivial⟩)⟩
 clear S eq_168; rintro a _ ⟨rfl, S⟩
 refine wl_pure (l' := [(129, .bool q_168), (128, .bool q_168), (15, .int .i64 t_161.2), (14, v_162), (12, v_153)]) S tys tys_ok 1 (by kernel_rfl) ?_
 clear S; intro a S
 obtain ⟨q_169, eq_169, h⟩ := bindS h
 refine seg 4 (fun a_ w_ => w_167 = w_ ∧ St 151 a_ [(133, .bool q_169), (15, .int .i64 t_161.2), (14, v_162)]) ?_ ?_
 ·by_cases hc : q_168 = true
  ·rw [if_pos hc] at eq_169; rw [hc] at S
   refine wl_pure (l' := [(130, v_153), (129, .bool true), (128, .bool true), (15, .int .i64 t_161.2), (14, v_162), (12, v_153)]) S tys tys_ok 1 (by kernel_rfl) ?_
   clear S; intro a S
   refine w_go S rfl (op_len (K := _) S rfl ty23 rfl rfl rfl R_155 ?_)
   clear S; intro a G_170 S
   refine wl_pureK (l' := [(133, .bool ((lenI t_152.1) == 126)), (15, .int .i64 t_161.2), (14, v_162)]) S tys tys_ok 2 [133, 15, 14] (by kernel_rfl) ?_
   clear S; intro a S
   obtain rfl := Option.some.inj eq_169
   exact ⟨rfl, S.sub (by exact ⟨rfl, rfl, rfl, trivial⟩)⟩
  ·rw [if_neg hc] at eq_169; rw [show q_168 = false from Bool.eq_false_iff.2 hc] at S
   refine wl_pureK (l' := [(133, .bool false), (15, .int .i64 t_161.2), (14, v_162)]) S tys tys_ok 4 [133, 15, 14] (by kernel_rfl) ?_
   clear S; intro a S
   obtain rfl := Option.some.inj eq_169
   exact ⟨rfl, S.sub (by exact ⟨rfl, rfl, rfl, trivial⟩)⟩
 clear S eq_169; rintro a _ ⟨rfl, S⟩
 refine wl_pure (l' := [(134, .bool q_169), (133, .bool q_169), (15, .int .i64 t_161.2), (14, v_162)]) S tys tys_ok 1 (by kernel_rfl) ?_
 clear S; intro a S
 obtain ⟨q_171, eq_171, h⟩ := bindS h
 refine seg 3 (fun a_ w_ => w_167 = w_ ∧ St 151 a_ [(137, .bool q_171), (14, v_162)]) ?_ ?_
 ·by_cases hc : q_169 = true
  ·rw [if_pos hc] at eq_171; rw [hc] at S
   refine wl_pureK (l' := [(137, .bool (t_161.2 == 0)), (14, v_162)]) S tys tys_ok 3 [137, 14] (by kernel_rfl) ?_
   clear S; intro a S
   obtain rfl := Option.some.inj eq_171
   exact ⟨rfl, S.sub (by exact ⟨rfl, rfl, trivial⟩)⟩
  ·rw [if_neg hc] at eq_171; rw [show q_169 = false from Bool.eq_false_iff.2 hc] at S
   refine wl_pureK (l' := [(137, .bool false), (14, v_162)]) S tys tys_ok 3 [137, 14] (by kernel_rfl) ?_
   clear S; intro a S
   obtain rfl := Option.some.inj eq_171
   exact ⟨rfl, S.sub (by exact ⟨rfl, rfl, trivial⟩)⟩
 clear S eq_171; rintro a _ ⟨rfl, S⟩
 refine wl_pure (l' := [(138, .bool q_171), (137, .bool q_171), (14, v_162)]) S tys tys_ok 1 (by kernel_rfl) ?_
 clear S; intro a S
 obtain ⟨q_172, eq_172, h⟩ := bindS h
 refine seg 4 (fun a_ w_ => w_167 = w_ ∧ St 151 a_ [(142, .bool q_172), (14, v_162)]) ?_ ?_
 ·by_cases hc : q_171 = true
  ·rw [if_pos hc] at eq_172; rw [hc] at S
   refine wl_pure (l' := [(139, v_162), (138, .bool true), (137, .bool true), (14, v_162)]) S tys tys_ok 1 (by kernel_rfl) ?_
   clear S; intro a S
   refine w_go S rfl (op_len (K := _) S rfl ty23 rfl rfl rfl R_164 ?_)
   clear S; intro a G_173 S
   refine wl_pureK (l' := [(142, .bool ((lenI t_161.1) == 127)), (14, v_162)]) S tys tys_ok 2 [142, 14] (by kernel_rfl) ?_
   clear S; intro a S
   obtain rfl := Option.some.inj eq_172
   exact ⟨rfl, S.sub (by exact ⟨rfl, rfl, trivial⟩)⟩
  ·rw [if_neg hc] at eq_172; rw [show q_171 = false from Bool.eq_false_iff.2 hc] at S
   refine wl_pureK (l' := [(142, .bool false), (14, v_162)]) S tys tys_ok 4 [142, 14] (by kernel_rfl) ?_
   clear S; intro a S
   obtain rfl := Option.some.inj eq_172
   exact ⟨rfl, S.sub (by exact ⟨rfl, rfl, trivial⟩)⟩
 clear S eq_172; rintro a _ ⟨rfl, S⟩
 refine wl_pure (l' := [(143, .bool q_172), (142, .bool q_172), (14, v_162)]) S tys tys_ok 1 (by kernel_rfl) ?_
 clear S; intro a S
 obtain ⟨q_174, eq_174, h⟩ := bindS h
 refine seg 4 (fun a_ w_ => St 151 a_ [(147, .bool q_174)] ∧ Wd w w_ [some b_142, some b_117] ∧ Bx gt2 31 w_ (Kx K w.heap.size [some b_142, some b_117]) b_117 (0, 1, (⟨[7, 7, 1], some 3⟩ : Sl (Int)), 0) ∧ Bx gt0 33 w_ (Kx K w.heap.size [some b_142, some b_117]) b_142 y_136) ?_ ?_
 ·by_cases hc : q_172 = true
  ·rw [if_pos hc] at eq_174; rw [hc] at S
   refine wl_pure (l' := [(144, v_162), (143, .bool true), (142, .bool true), (14, v_162)]) S tys tys_ok 1 (by kernel_rfl) ?_
   clear S; intro a S
   obtain ⟨t_175, et_175, eq_174⟩ := bindS eq_174
   refine w_go S rfl (op_call (vs := [v_162]) S rfl cb10 rfl rfl rfl (c10 (Kx K w.heap.size [some b_142, some b_117]) n w_167 t_161.1 _ R_164 et_175) ?_)
   rintro _ w_179 ⟨v_176, rfl, R_177, hb_178⟩; refine ⟨_, rfl, ?_⟩
   replace R_177 := RepV.back R_177 W
   clear S; intro a S
   replace R_164 := R_164.step hb_178
   replace B_118 := B_118.step hb_178
   replace B_143 := B_143.step hb_178
   replace W := W.step hb_178
   obtain ⟨rfl, GR_177⟩ := RepV.int R_177
   refine wl_pureK (l' := [(147, .bool (t_175 == 0))]) S tys tys_ok 2 [147] (by kernel_rfl) ?_
   clear S; intro a S
   obtain rfl := Option.some.inj eq_174
   exact ⟨S.sub (by exact ⟨rfl, trivial⟩), W, B_118, B_143⟩
  ·rw [if_neg hc] at eq_174; rw [show q_172 = false from Bool.eq_false_iff.2 hc] at S
   refine wl_pureK (l' := [(147, .bool false)]) S tys tys_ok 4 [147] (by kernel_rfl) ?_
   clear S; intro a S
   obtain rfl := Option.some.inj eq_174
   exact ⟨S.sub (by exact ⟨rfl, trivial⟩), W, B_118, B_143⟩
 clear S W eq_174; rintro a w_180 ⟨S, W, B_118, B_143⟩
 refine wl_pure (l' := [(148, .bool q_174), (147, .bool q_174)]) S tys tys_ok 1 (by kernel_rfl) ?_
 clear S; intro a S
 obtain ⟨q_181, eq_181, h⟩ := bindS h
 refine seg 2 (fun a_ w_ => St 151 a_ [(150, .bool q_181)] ∧ Wd w w_ [some b_142, some b_117] ∧ Bx gt2 31 w_ (Kx K w.heap.size [some b_142, some b_117]) b_117 (0, 1, (⟨[7, 7, 1], some 3⟩ : Sl (Int)), 0) ∧ Bx gt0 33 w_ (Kx K w.heap.size [some b_142, some b_117]) b_142 y_136) ?_ ?_
 ·by_cases hc : q_174 = true
  ·rw [if_pos hc] at eq_181; rw [hc] at S
   obtain ⟨t_182, et_182, eq_181⟩ := bindS eq_181
   refine w_go S rfl (op_call (vs := []) S rfl cb11 rfl rfl rfl (c11 (Kx K w.heap.size [some b_142, some b_117]) n w_180  et_182) ?_)
   rintro _ w_186 ⟨v_183, rfl, R_184, hb_185⟩; refine ⟨_, rfl, ?_⟩
   replace R_184 := RepV.back R_184 W
   clear S; intro a S
   replace B_118 := B_118.step hb_185
   replace B_143 := B_143.step hb_185
   replace W := W.step hb_185
   obtain rfl := RepV.bool R_184
   refine wl_pureK (l' := [(150, .bool t_182)]) S tys tys_ok 1 [150] (by kernel_rfl) ?_
   clear S; intro a S
   obtain rfl := Option.some.inj eq_181
   exact ⟨S.sub (by exact ⟨rfl, trivial⟩), W, B_118, B_143⟩
  ·rw [if_neg hc] at eq_181; rw [show q_174 = false from Bool.eq_false_iff.2 hc] at S
   refine wl_pureK (l' := [(150, .bool false)]) S tys tys_ok 2 [150] (by kernel_rfl) ?_
   clear S; intro a S
   obtain rfl := Option.some.inj eq_181
   exact ⟨S.sub (by exact ⟨rfl, trivial⟩), W, B_118, B_143⟩
 clear S W eq_181; rintro a w_187 ⟨S, W, B_118, B_143⟩
 refine wl_pure (l' := [(2, .bool q_181), (150, .bool q_181)]) S tys tys_ok 1 (by kernel_rfl) ?_
 clear S; intro a S
 refine wpList_nil ?_
 refine then_n ?_
 replace S := S.sub (l' := [(2, .bool q_181)]) (by exact ⟨rfl, trivial⟩)
 refine wp_ret ?_
 obtain rfl := Option.some.inj h
 exact b_ret1 S rfl rfl ⟨_, rfl, RepV.mkBool, W.below⟩

end Go.Proofs.Ytmcpcdmonglkjaa
