/- Functions of the program, as plain data. -/
import Derived.Test.YtpllbhofpppfcaaP2
set_option linter.unusedVariables false
set_option linter.unusedSimpArgs false
namespace Go.Proofs.Ytpllbhofpppfcaa
open Go.RowKit

def p10 (n : Nat)  : Option ((Bool)) :=
  (p8 n 1 3 10).bind fun t_1 =>
  (p8 n 0 3 255).bind fun t_8 =>
  (p8 n 2 1 16).bind fun t_15 =>
  (p8 n 0 1 1).bind fun t_22 =>
  (if (t_1.1 != 64) = false then some (t_8.1 != 256) else some true).bind fun q_29 =>
  (if q_29 = false then some (t_15.1 != 256) else some true).bind fun q_30 =>
  (if q_30 = false then some (t_1.2 != 0) else some true).bind fun q_31 =>
  (if q_31 = false then some (t_8.2 != 0) else some true).bind fun q_32 =>
  (if q_32 = false then some (t_15.2 != 0) else some true).bind fun q_33 =>
  (if q_33 = false then some (t_22.2 != 1) else some true).bind fun q_34 =>
  if q_34 then (some false) else (p12 n 8 3 11).bind fun t_35 => (if (!t_35) = false then (p12 n 8 3 12).bind fun t_41 => some t_41 else some true).bind fun q_40 => (if q_40 = false then (p12 n 8 8 8).bind fun t_48 => some t_48 else some true).bind fun q_47 => (if q_47 = false then (p12 n 6 0 0).bind fun t_55 => some t_55 else some true).bind fun q_54 => (if q_54 = false then (p13 n 8 3 3 12).bind fun t_62 => some (t_62 != 2) else some true).bind fun q_61 => (if q_61 = false then (p13 n 8 3 (-100) 4).bind fun t_69 => some (t_69 != 1) else some true).bind fun q_68 => if q_68 then (some false) else (p15 n 8 3 4 2).bind fun t_75 => (if ((lenI (⟨t_75.xs, t_75.cap⟩ : Sl (Int))) != 2) = false then (idx t_75.xs 0).bind fun y_82 => some (y_82 != 11) else some true).bind fun q_81 => (if q_81 = false then (idx t_75.xs 1).bind fun y_89 => some (y_89 != 19) else some true).bind fun q_88 => if q_88 then (some false) else (p18 n (true, 1, 8, ⟨[], some 0⟩, 3)).bind fun t_97 => (p21 n t_97.1 (1, (⟨[1, 2], some 2⟩ : Sl (Int)))).bind fun t_118 => (p21 n t_118 (4, ⟨[], some 0⟩)).bind fun t_129 => (p21 n t_129 (1, ⟨[], some 0⟩)).bind fun t_140 => (p20 n t_140).bind fun t_149 => (if (t_97.2 == 0) = true then some t_149.2 else some false).bind fun q_156 => (if q_156 = true then some ((lenI (⟨t_149.1.xs, t_149.1.cap⟩ : Sl (Int × (Sl (Int))))) == 3) else some false).bind fun q_157 => (if q_157 = true then (idx t_149.1.xs 0).bind fun y_160 => some (decide (y_160.2.xs = [1, 2])) else some false).bind fun q_159 => (if q_159 = true then (idx t_149.1.xs 0).bind fun y_167 => some (y_167.1 == 0) else some false).bind fun q_166 => (if q_166 = true then (idx t_149.1.xs 1).bind fun y_174 => some (y_174.1 == 11) else some false).bind fun q_173 => (if q_173 = true then (idx t_149.1.xs 2).bind fun y_181 => some (y_181.1 == 0) else some false).bind fun q_180 => some q_180
set_option maxHeartbeats 4000000 in
set_option maxRecDepth 100000 in
/-- plugboard/plugboardlaw10.lives -/
theorem c10 (K : Nat → Prop) (n : Nat) (w : World)  {r : (Bool)} (h : p10 n  = some r) :
    Calls Try.prog 10 #[] w (Ret1 .bool w (Kx K w.heap.size []) r) := by
  refine enter (args := []) Try.func10 rfl 149 rfl rfl fun a S => ?_
  have W := Wd.start w
  unfold p10 at h
  replace S : St 149 a [] := S
  refine wp_seq ?_
  refine wp_region_lit ?_
  refine wl_pure (l' := [(0, .bool false)]) S tys tys_ok 1 (by kernel_rfl) ?_
  clear S; intro a S
  refine wpList_nil ?_
  refine then_n ?_
  replace S := S.sub (l' := []) trivial
  refine wp_seq ?_
  refine wp_region_lit ?_
  obtain ⟨t_1, et_1, h⟩ := bindS h
  refine w_go S rfl (op_call (vs := [.int .u8 1, .int .u8 3, .int .i64 10]) S rfl cb8 rfl rfl rfl (c8 (Kx K w.heap.size []) n w 1 (by decide) 3 (by decide) 10 (by decide) et_1) ?_)
  rintro _ w_7 ⟨v_2, v_3, rfl, R_4, R_5, hb_6⟩; refine ⟨_, rfl, ?_⟩
  replace R_4 := RepV.back R_4 W
  replace R_5 := RepV.back R_5 W
  clear S; intro a S
  replace W := W.step hb_6
  obtain ⟨rfl, GR_4⟩ := RepV.int R_4
  obtain ⟨rfl, GR_5⟩ := RepV.int R_5
  refine wl_pure (l' := [(2, .int .i64 t_1.2), (1, .int .i64 t_1.1), (16, .int .i64 t_1.2), (15, .int .i64 t_1.1), (13, .tuple #[.int .i64 t_1.1, .int .i64 t_1.2]), (14, .tuple #[.int .i64 t_1.1, .int .i64 t_1.2])]) S tys tys_ok 5 (by kernel_rfl) ?_
  clear S; intro a S
  refine wpList_nil ?_
  refine then_n ?_
  replace S := S.sub (l' := [(2, .int .i64 t_1.2), (1, .int .i64 t_1.1)]) (by exact ⟨rfl, rfl, trivial⟩)
  refine wp_seq ?_
  refine wp_region_lit ?_
  obtain ⟨t_8, et_8, h⟩ := bindS h
  refine w_go S rfl (op_call (vs := [.int .u8 0, .int .u8 3, .int .i64 255]) S rfl cb8 rfl rfl rfl (c8 (Kx K w.heap.size []) n w_7 0 (by decide) 3 (by decide) 255 (by decide) et_8) ?_)
  rintro _ w_14 ⟨v_9, v_10, rfl, R_11, R_12, hb_13⟩; refine ⟨_, rfl, ?_⟩
  replace R_11 := RepV.back R_11 W
  replace R_12 := RepV.back R_12 W
  clear S; intro a S
  replace W := W.step hb_13
  obtain ⟨rfl, GR_11⟩ := RepV.int R_11
  obtain ⟨rfl, GR_12⟩ := RepV.int R_12
  refine wl_pure (l' := [(4, .int .i64 t_8.2), (3, .int .i64 t_8.1), (20, .int .i64 t_8.2), (19, .int .i64 t_8.1), (17, .tuple #[.int .i64 t_8.1, .int .i64 t_8.2]), (18, .tuple #[.int .i64 t_8.1, .int .i64 t_8.2]), (2, .int .i64 t_1.2), (1, .int .i64 t_1.1)]) S tys tys_ok 5 (by kernel_rfl) ?_
  clear S; intro a S
  refine wpList_nil ?_
  refine then_n ?_
  replace S := S.sub (l' := [(4, .int .i64 t_8.2), (3, .int .i64 t_8.1), (2, .int .i64 t_1.2), (1, .int .i64 t_1.1)]) (by exact ⟨rfl, rfl, rfl, rfl, trivial⟩)
  refine wp_seq ?_
  refine wp_region_lit ?_
  obtain ⟨t_15, et_15, h⟩ := bindS h
  refine w_go S rfl (op_call (vs := [.int .u8 2, .int .u8 1, .int .i64 16]) S rfl cb8 rfl rfl rfl (c8 (Kx K w.heap.size []) n w_14 2 (by decide) 1 (by decide) 16 (by decide) et_15) ?_)
  rintro _ w_21 ⟨v_16, v_17, rfl, R_18, R_19, hb_20⟩; refine ⟨_, rfl, ?_⟩
  replace R_18 := RepV.back R_18 W
  replace R_19 := RepV.back R_19 W
  clear S; intro a S
  replace W := W.step hb_20
  obtain ⟨rfl, GR_18⟩ := RepV.int R_18
  obtain ⟨rfl, GR_19⟩ := RepV.int R_19
  refine wl_pure (l' := [(6, .int .i64 t_15.2), (5, .int .i64 t_15.1), (24, .int .i64 t_15.2), (23, .int .i64 t_15.1), (21, .tuple #[.int .i64 t_15.1, .int .i64 t_15.2]), (22, .tuple #[.int .i64 t_15.1, .int .i64 t_15.2]), (4, .int .i64 t_8.2), (3, .int .i64 t_8.1), (2, .int .i64 t_1.2), (1, .int .i64 t_1.1)]) S tys tys_ok 5 (by kernel_rfl) ?_
  clear S; intro a S
  refine wpList_nil ?_
  refine then_n ?_
  replace S := S.sub (l' := [(6, .int .i64 t_15.2), (5, .int .i64 t_15.1), (4, .int .i64 t_8.2), (3, .int .i64 t_8.1), (2, .int .i64 t_1.2), (1, .int .i64 t_1.1)]) (by exact ⟨rfl, rfl, rfl, rfl, rfl, rfl, trivial⟩)
  refine wp_seq ?_
  refine wp_region_lit ?_
  obtain ⟨t_22, et_22, h⟩ := bindS h
  refine w_go S rfl (op_call (vs := [.int .u8 0, .int .u8 1, .int .i64 1]) S rfl cb8 rfl rfl rfl (c8 (Kx K w.heap.size []) n w_21 0 (by decide) 1 (by decide) 1 (by decide) et_22) ?_)
  rintro _ w_28 ⟨v_23, v_24, rfl, R_25, R_26, hb_27⟩; refine ⟨_, rfl, ?_⟩
  replace R_25 := RepV.back R_25 W
  replace R_26 := RepV.back R_26 W
  clear S; intro a S
  replace W := W.step hb_27
  obtain ⟨rfl, GR_25⟩ := RepV.int R_25
  obtain ⟨rfl, GR_26⟩ := RepV.int R_26
  refine wl_pure (l' := [(8, .int .i64 t_22.2), (7, .int .i64 t_22.1), (28, .int .i64 t_22.2), (27, .int .i64 t_22.1), (25, .tuple #[.int .i64 t_22.1, .int .i64 t_22.2]), (26, .tuple #[.int .i64 t_22.1, .int .i64 t_22.2]), (6, .int .i64 t_15.2), (5, .int .i64 t_15.1), (4, .int .i64 t_8.2), (3, .int .i64 t_8.1), (2, .int .i64 t_1.2), (1, .int .i64 t_1.1)]) S tys tys_ok 5 (by kernel_rfl) ?_
  clear S; intro a S
  refine wpList_nil ?_
  refine then_n ?_
  replace S := S.sub (l' := [(8, .int .i64 t_22.2), (6, .int .i64 t_15.2), (5, .int .i64 t_15.1), (4, .int .i64 t_8.2), (3, .int .i64 t_8.1), (2, .int .i64 t_1.2), (1, .int .i64 t_1.1)]) (by exact ⟨rfl, rfl, rfl, rfl, rfl, rfl, rfl, trivial⟩)
  refine wp_seq ?_
  refine wp_seq ?_
  refine wp_region_lit ?_
  refine wl_pure (l' := [(31, .bool (t_1.1 != 64)), (30, .bool (t_1.1 != 64)), (29, .int .i64 t_1.1), (8, .int .i64 t_22.2), (6, .int .i64 t_15.2), (5, .int .i64 t_15.1), (4, .int .i64 t_8.2), (3, .int .i64 t_8.1), (2, .int .i64 t_1.2), (1, .int .i64 t_1.1)]) S tys tys_ok 3 (by kernel_rfl) ?_
  clear S; intro a S
  obtain ⟨q_29, eq_29, h⟩ := bindS h
  refine seg 3 (fun a_ w_ => w_28 = w_ ∧ St 149 a_ [(34, .bool q_29), (8, .int .i64 t_22.2), (6, .int .i64 t_15.2), (5, .int .i64 t_15.1), (4, .int .i64 t_8.2), (2, .int .i64 t_1.2)]) ?_ ?_
  · by_cases hc : (t_1.1 != 64) = false
    · rw [if_pos hc] at eq_29; rw [hc] at S
      refine wl_pure (l' := [(34, .bool (t_8.1 != 256)), (33, .bool (t_8.1 != 256)), (32, .int .i64 t_8.1), (31, .bool false), (30, .bool false), (29, .int .i64 t_1.1), (8, .int .i64 t_22.2), (6, .int .i64 t_15.2), (5, .int .i64 t_15.1), (4, .int .i64 t_8.2), (3, .int .i64 t_8.1), (2, .int .i64 t_1.2), (1, .int .i64 t_1.1)]) S tys tys_ok 3 (by kernel_rfl) ?_
      clear S; intro a S
      obtain rfl := Option.some.inj eq_29
      exact ⟨rfl, S.sub (by exact ⟨rfl, rfl, rfl, rfl, rfl, rfl, trivial⟩)⟩
    · rw [if_neg hc] at eq_29; rw [show (t_1.1 != 64) = true from (by simpa using hc)] at S
      refine wl_pure (l' := [(34, .bool true), (33, undef), (32, undef), (31, .bool true), (30, .bool true), (29, .int .i64 t_1.1), (8, .int .i64 t_22.2), (6, .int .i64 t_15.2), (5, .int .i64 t_15.1), (4, .int .i64 t_8.2), (3, .int .i64 t_8.1), (2, .int .i64 t_1.2), (1, .int .i64 t_1.1)]) S tys tys_ok 3 (by kernel_rfl) ?_
      clear S; intro a S
      obtain rfl := Option.some.inj eq_29
      exact ⟨rfl, S.sub (by exact ⟨rfl, rfl, rfl, rfl, rfl, rfl, trivial⟩)⟩
  clear S eq_29; rintro a _ ⟨rfl, S⟩
  refine wl_pure (l' := [(35, .bool q_29), (34, .bool q_29), (8, .int .i64 t_22.2), (6, .int .i64 t_15.2), (5, .int .i64 t_15.1), (4, .int .i64 t_8.2), (2, .int .i64 t_1.2)]) S tys tys_ok 1 (by kernel_rfl) ?_
  clear S; intro a S
  obtain ⟨q_30, eq_30, h⟩ := bindS h
  refine seg 3 (fun a_ w_ => w_28 = w_ ∧ St 149 a_ [(38, .bool q_30), (8, .int .i64 t_22.2), (6, .int .i64 t_15.2), (4, .int .i64 t_8.2), (2, .int .i64 t_1.2)]) ?_ ?_
  · by_cases hc : q_29 = false
    · rw [if_pos hc] at eq_30; rw [hc] at S
      refine wl_pure (l' := [(38, .bool (t_15.1 != 256)), (37, .bool (t_15.1 != 256)), (36, .int .i64 t_15.1), (35, .bool false), (34, .bool false), (8, .int .i64 t_22.2), (6, .int .i64 t_15.2), (5, .int .i64 t_15.1), (4, .int .i64 t_8.2), (2, .int .i64 t_1.2)]) S tys tys_ok 3 (by kernel_rfl) ?_
      clear S; intro a S
      obtain rfl := Option.some.inj eq_30
      exact ⟨rfl, S.sub (by exact ⟨rfl, rfl, rfl, rfl, rfl, trivial⟩)⟩
    · rw [if_neg hc] at eq_30; rw [show q_29 = true from (by simpa using hc)] at S
      refine wl_pure (l' := [(38, .bool true), (37, undef), (36, undef), (35, .bool true), (34, .bool true), (8, .int .i64 t_22.2), (6, .int .i64 t_15.2), (5, .int .i64 t_15.1), (4, .int .i64 t_8.2), (2, .int .i64 t_1.2)]) S tys tys_ok 3 (by kernel_rfl) ?_
      clear S; intro a S
      obtain rfl := Option.some.inj eq_30
      exact ⟨rfl, S.sub (by exact ⟨rfl, rfl, rfl, rfl, rfl, trivial⟩)⟩
  clear S eq_30; rintro a _ ⟨rfl, S⟩
  refine wl_pure (l' := [(39, .bool q_30), (38, .bool q_30), (8, .int .i64 t_22.2), (6, .int .i64 t_15.2), (4, .int .i64 t_8.2), (2, .int .i64 t_1.2)]) S tys tys_ok 1 (by kernel_rfl) ?_
  clear S; intro a S
  obtain ⟨q_31, eq_31, h⟩ := bindS h
  refine seg 3 (fun a_ w_ => w_28 = w_ ∧ St 149 a_ [(42, .bool q_31), (8, .int .i64 t_22.2), (6, .int .i64 t_15.2), (4, .int .i64 t_8.2)]) ?_ ?_
  · by_cases hc : q_30 = false
    · rw [if_pos hc] at eq_31; rw [hc] at S
      refine wl_pure (l' := [(42, .bool (t_1.2 != 0)), (41, .bool (t_1.2 != 0)), (40, .int .i64 t_1.2), (39, .bool false), (38, .bool false), (8, .int .i64 t_22.2), (6, .int .i64 t_15.2), (4, .int .i64 t_8.2), (2, .int .i64 t_1.2)]) S tys tys_ok 3 (by kernel_rfl) ?_
      clear S; intro a S
      obtain rfl := Option.some.inj eq_31
      exact ⟨rfl, S.sub (by exact ⟨rfl, rfl, rfl, rfl, trivial⟩)⟩
    · rw [if_neg hc] at eq_31; rw [show q_30 = true from (by simpa using hc)] at S
      refine wl_pure (l' := [(42, .bool true), (41, undef), (40, undef), (39, .bool true), (38, .bool true), (8, .int .i64 t_22.2), (6, .int .i64 t_15.2), (4, .int .i64 t_8.2), (2, .int .i64 t_1.2)]) S tys tys_ok 3 (by kernel_rfl) ?_
      clear S; intro a S
      obtain rfl := Option.some.inj eq_31
      exact ⟨rfl, S.sub (by exact ⟨rfl, rfl, rfl, rfl, trivial⟩)⟩
  clear S eq_31; rintro a _ ⟨rfl, S⟩
  refine wl_pure (l' := [(43, .bool q_31), (42, .bool q_31), (8, .int .i64 t_22.2), (6, .int .i64 t_15.2), (4, .int .i64 t_8.2)]) S tys tys_ok 1 (by kernel_rfl) ?_
  clear S; intro a S
  obtain ⟨q_32, eq_32, h⟩ := bindS h
  refine seg 3 (fun a_ w_ => w_28 = w_ ∧ St 149 a_ [(46, .bool q_32), (8, .int .i64 t_22.2), (6, .int .i64 t_15.2)]) ?_ ?_
  · by_cases hc : q_31 = false
    · rw [if_pos hc] at eq_32; rw [hc] at S
      refine wl_pure (l' := [(46, .bool (t_8.2 != 0)), (45, .bool (t_8.2 != 0)), (44, .int .i64 t_8.2), (43, .bool false), (42, .bool false), (8, .int .i64 t_22.2), (6, .int .i64 t_15.2), (4, .int .i64 t_8.2)]) S tys tys_ok 3 (by kernel_rfl) ?_
      clear S; intro a S
      obtain rfl := Option.some.inj eq_32
      exact ⟨rfl, S.sub (by exact ⟨rfl, rfl, rfl, trivial⟩)⟩
    · rw [if_neg hc] at eq_32; rw [show q_31 = true from (by simpa using hc)] at S
      refine wl_pure (l' := [(46, .bool true), (45, undef), (44, undef), (43, .bool true), (42, .bool true), (8, .int .i64 t_22.2), (6, .int .i64 t_15.2), (4, .int .i64 t_8.2)]) S tys tys_ok 3 (by kernel_rfl) ?_
      clear S; intro a S
      obtain rfl := Option.some.inj eq_32
      exact ⟨rfl, S.sub (by exact ⟨rfl, rfl, rfl, trivial⟩)⟩
  clear S eq_32; rintro a _ ⟨rfl, S⟩
  refine wl_pure (l' := [(47, .bool q_32), (46, .bool q_32), (8, .int .i64 t_22.2), (6, .int .i64 t_15.2)]) S tys tys_ok 1 (by kernel_rfl) ?_
  clear S; intro a S
  obtain ⟨q_33, eq_33, h⟩ := bindS h
  refine seg 3 (fun a_ w_ => w_28 = w_ ∧ St 149 a_ [(50, .bool q_33), (8, .int .i64 t_22.2)]) ?_ ?_
  · by_cases hc : q_32 = false
    · rw [if_pos hc] at eq_33; rw [hc] at S
      refine wl_pure (l' := [(50, .bool (t_15.2 != 0)), (49, .bool (t_15.2 != 0)), (48, .int .i64 t_15.2), (47, .bool false), (46, .bool false), (8, .int .i64 t_22.2), (6, .int .i64 t_15.2)]) S tys tys_ok 3 (by kernel_rfl) ?_
      clear S; intro a S
      obtain rfl := Option.some.inj eq_33
      exact ⟨rfl, S.sub (by exact ⟨rfl, rfl, trivial⟩)⟩
    · rw [if_neg hc] at eq_33; rw [show q_32 = true from (by simpa using hc)] at S
      refine wl_pure (l' := [(50, .bool true), (49, undef), (48, undef), (47, .bool true), (46, .bool true), (8, .int .i64 t_22.2), (6, .int .i64 t_15.2)]) S tys tys_ok 3 (by kernel_rfl) ?_
      clear S; intro a S
      obtain rfl := Option.some.inj eq_33
      exact ⟨rfl, S.sub (by exact ⟨rfl, rfl, trivial⟩)⟩
  clear S eq_33; rintro a _ ⟨rfl, S⟩
  refine wl_pure (l' := [(51, .bool q_33), (50, .bool q_33), (8, .int .i64 t_22.2)]) S tys tys_ok 1 (by kernel_rfl) ?_
  clear S; intro a S
  obtain ⟨q_34, eq_34, h⟩ := bindS h
  refine seg 3 (fun a_ w_ => w_28 = w_ ∧ St 149 a_ [(54, .bool q_34)]) ?_ ?_
  · by_cases hc : q_33 = false
    · rw [if_pos hc] at eq_34; rw [hc] at S
      refine wl_pure (l' := [(54, .bool (t_22.2 != 1)), (53, .bool (t_22.2 != 1)), (52, .int .i64 t_22.2), (51, .bool false), (50, .bool false), (8, .int .i64 t_22.2)]) S tys tys_ok 3 (by kernel_rfl) ?_
      clear S; intro a S
      obtain rfl := Option.some.inj eq_34
      exact ⟨rfl, S.sub (by exact ⟨rfl, trivial⟩)⟩
    · rw [if_neg hc] at eq_34; rw [show q_33 = true from (by simpa using hc)] at S
      refine wl_pure (l' := [(54, .bool true), (53, undef), (52, undef), (51, .bool true), (50, .bool true), (8, .int .i64 t_22.2)]) S tys tys_ok 3 (by kernel_rfl) ?_
      clear S; intro a S
      obtain rfl := Option.some.inj eq_34
      exact ⟨rfl, S.sub (by exact ⟨rfl, trivial⟩)⟩
  clear S eq_34; rintro a _ ⟨rfl, S⟩
  refine wpList_nil ?_
  refine then_n ?_
  refine wp_cond_split (S.eval (show ev _ _ = some (.bool q_34) from rfl)) ?_ ?_
  · intro hc
    rw [if_pos hc] at h
    refine wp_seq ?_
    refine wp_region_lit ?_
    refine wl_pure (l' := [(0, .bool false), (54, .bool q_34)]) S tys tys_ok 1 (by kernel_rfl) ?_
    clear S; intro a S
    refine wpList_nil ?_
    refine then_n ?_
    replace S := S.sub (l' := [(0, .bool false)]) (by exact ⟨rfl, trivial⟩)
    refine wp_ret ?_
    refine then_r ?_
    obtain rfl := Option.some.inj h
    exact b_ret1 S rfl rfl ⟨_, rfl, RepV.mkBool, W.below⟩
  · intro hc
    rw [if_neg (Bool.eq_false_iff.1 hc)] at h
    refine wp_skip ?_
    refine then_n ?_
    replace S := S.sub (l' := []) trivial
    refine wp_seq ?_
    refine wp_seq ?_
    refine wp_region_lit ?_
    obtain ⟨t_35, et_35, h⟩ := bindS h
    refine w_go S rfl (op_call (vs := [.int .i64 8, .int .i64 3, .int .i64 11]) S rfl cb12 rfl rfl rfl (c12 (Kx K w.heap.size []) n w_28 8 (by decide) 3 (by decide) 11 (by decide) et_35) ?_)
    rintro _ w_39 ⟨v_36, rfl, R_37, hb_38⟩; refine ⟨_, rfl, ?_⟩
    replace R_37 := RepV.back R_37 W
    clear S; intro a S
    replace W := W.step hb_38
    obtain rfl := RepV.bool R_37
    refine wl_pure (l' := [(57, .bool (!t_35)), (56, .bool (!t_35)), (55, .bool t_35)]) S tys tys_ok 2 (by kernel_rfl) ?_
    clear S; intro a S
    obtain ⟨q_40, eq_40, h⟩ := bindS h
    refine seg 2 (fun a_ w_ => St 149 a_ [(59, .bool q_40)] ∧ Wd w w_ []) ?_ ?_
    · by_cases hc : (!t_35) = false
      · rw [if_pos hc] at eq_40; rw [hc] at S
        obtain ⟨t_41, et_41, eq_40⟩ := bindS eq_40
        refine w_go S rfl (op_call (vs := [.int .i64 8, .int .i64 3, .int .i64 12]) S rfl cb12 rfl rfl rfl (c12 (Kx K w.heap.size []) n w_39 8 (by decide) 3 (by decide) 12 (by decide) et_41) ?_)
        rintro _ w_45 ⟨v_42, rfl, R_43, hb_44⟩; refine ⟨_, rfl, ?_⟩
        replace R_43 := RepV.back R_43 W
        clear S; intro a S
        replace W := W.step hb_44
        obtain rfl := RepV.bool R_43
        refine wl_pure (l' := [(59, .bool t_41), (58, .bool t_41), (57, .bool false), (56, .bool false), (55, .bool t_35)]) S tys tys_ok 1 (by kernel_rfl) ?_
        clear S; intro a S
        obtain rfl := Option.some.inj eq_40
        exact ⟨S.sub (by exact ⟨rfl, trivial⟩), W⟩
      · rw [if_neg hc] at eq_40; rw [show (!t_35) = true from (by simpa using hc)] at S
        refine wl_pure (l' := [(59, .bool true), (58, undef), (57, .bool true), (56, .bool true), (55, .bool t_35)]) S tys tys_ok 2 (by kernel_rfl) ?_
        clear S; intro a S
        obtain rfl := Option.some.inj eq_40
        exact ⟨S.sub (by exact ⟨rfl, trivial⟩), W⟩
    clear S W eq_40; rintro a w_46 ⟨S, W⟩
    refine wl_pure (l' := [(60, .bool q_40), (59, .bool q_40)]) S tys tys_ok 1 (by kernel_rfl) ?_
    clear S; intro a S
    obtain ⟨q_47, eq_47, h⟩ := bindS h
    refine seg 2 (fun a_ w_ => St 149 a_ [(62, .bool q_47)] ∧ Wd w w_ []) ?_ ?_
    · by_cases hc : q_40 = false
      · rw [if_pos hc] at eq_47; rw [hc] at S
        obtain ⟨t_48, et_48, eq_47⟩ := bindS eq_47
        refine w_go S rfl (op_call (vs := [.int .i64 8, .int .i64 8, .int .i64 8]) S rfl cb12 rfl rfl rfl (c12 (Kx K w.heap.size []) n w_46 8 (by decide) 8 (by decide) 8 (by decide) et_48) ?_)
        rintro _ w_52 ⟨v_49, rfl, R_50, hb_51⟩; refine ⟨_, rfl, ?_⟩
        replace R_50 := RepV.back R_50 W
        clear S; intro a S
        replace W := W.step hb_51
        obtain rfl := RepV.bool R_50
        refine wl_pure (l' := [(62, .bool t_48), (61, .bool t_48), (60, .bool false), (59, .bool false)]) S tys tys_ok 1 (by kernel_rfl) ?_
        clear S; intro a S
        obtain rfl := Option.some.inj eq_47
        exact ⟨S.sub (by exact ⟨rfl, trivial⟩), W⟩
      · rw [if_neg hc] at eq_47; rw [show q_40 = true from (by simpa using hc)] at S
        refine wl_pure (l' := [(62, .bool true), (61, undef), (60, .bool true), (59, .bool true)]) S tys tys_ok 2 (by kernel_rfl) ?_
        clear S; intro a S
        obtain rfl := Option.some.inj eq_47
        exact ⟨S.sub (by exact ⟨rfl, trivial⟩), W⟩
    clear S W eq_47; rintro a w_53 ⟨S, W⟩
    refine wl_pure (l' := [(63, .bool q_47), (62, .bool q_47)]) S tys tys_ok 1 (by kernel_rfl) ?_
    clear S; intro a S
    obtain ⟨q_54, eq_54, h⟩ := bindS h
    refine seg 2 (fun a_ w_ => St 149 a_ [(65, .bool q_54)] ∧ Wd w w_ []) ?_ ?_
    · by_cases hc : q_47 = false
      · rw [if_pos hc] at eq_54; rw [hc] at S
        obtain ⟨t_55, et_55, eq_54⟩ := bindS eq_54
        refine w_go S rfl (op_call (vs := [.int .i64 6, .int .i64 0, .int .i64 0]) S rfl cb12 rfl rfl rfl (c12 (Kx K w.heap.size []) n w_53 6 (by decide) 0 (by decide) 0 (by decide) et_55) ?_)
        rintro _ w_59 ⟨v_56, rfl, R_57, hb_58⟩; refine ⟨_, rfl, ?_⟩
        replace R_57 := RepV.back R_57 W
        clear S; intro a S
        replace W := W.step hb_58
        obtain rfl := RepV.bool R_57
        refine wl_pure (l' := [(65, .bool t_55), (64, .bool t_55), (63, .bool false), (62, .bool false)]) S tys tys_ok 1 (by kernel_rfl) ?_
        clear S; intro a S
        obtain rfl := Option.some.inj eq_54
        exact ⟨S.sub (by exact ⟨rfl, trivial⟩), W⟩
      · rw [if_neg hc] at eq_54; rw [show q_47 = true from (by simpa using hc)] at S
        refine wl_pure (l' := [(65, .bool true), (64, undef), (63, .bool true), (62, .bool true)]) S tys tys_ok 2 (by kernel_rfl) ?_
        clear S; intro a S
        obtain rfl := Option.some.inj eq_54
        exact ⟨S.sub (by exact ⟨rfl, trivial⟩), W⟩
    clear S W eq_54; rintro a w_60 ⟨S, W⟩
    refine wl_pure (l' := [(66, .bool q_54), (65, .bool q_54)]) S tys tys_ok 1 (by kernel_rfl) ?_
    clear S; intro a S
    obtain ⟨q_61, eq_61, h⟩ := bindS h
    refine seg 3 (fun a_ w_ => St 149 a_ [(69, .bool q_61)] ∧ Wd w w_ []) ?_ ?_
    · by_cases hc : q_54 = false
      · rw [if_pos hc] at eq_61; rw [hc] at S
        obtain ⟨t_62, et_62, eq_61⟩ := bindS eq_61
        refine w_go S rfl (op_call (vs := [.int .i64 8, .int .i64 3, .int .i64 3, .int .i64 12]) S rfl cb13 rfl rfl rfl (c13 (Kx K w.heap.size []) n w_60 8 (by decide) 3 (by decide) 3 (by decide) 12 (by decide) et_62) ?_)
        rintro _ w_66 ⟨v_63, rfl, R_64, hb_65⟩; refine ⟨_, rfl, ?_⟩
        replace R_64 := RepV.back R_64 W
        clear S; intro a S
        replace W := W.step hb_65
        obtain ⟨rfl, GR_64⟩ := RepV.int R_64
        refine wl_pure (l' := [(69, .bool (t_62 != 2)), (68, .bool (t_62 != 2)), (67, .int .i64 t_62), (66, .bool false), (65, .bool false)]) S tys tys_ok 2 (by kernel_rfl) ?_
        clear S; intro a S
        obtain rfl := Option.some.inj eq_61
        exact ⟨S.sub (by exact ⟨rfl, trivial⟩), W⟩
      · rw [if_neg hc] at eq_61; rw [show q_54 = true from (by simpa using hc)] at S
        refine wl_pure (l' := [(69, .bool true), (68, undef), (67, undef), (66, .bool true), (65, .bool true)]) S tys tys_ok 3 (by kernel_rfl) ?_
        clear S; intro a S
        obtain rfl := Option.some.inj eq_61
        exact ⟨S.sub (by exact ⟨rfl, trivial⟩), W⟩
    clear S W eq_61; rintro a w_67 ⟨S, W⟩
    refine wl_pure (l' := [(70, .bool q_61), (69, .bool q_61)]) S tys tys_ok 1 (by kernel_rfl) ?_
    clear S; intro a S
    obtain ⟨q_68, eq_68, h⟩ := bindS h
    refine seg 3 (fun a_ w_ => St 149 a_ [(73, .bool q_68)] ∧ Wd w w_ []) ?_ ?_
    · by_cases hc : q_61 = false
      · rw [if_pos hc] at eq_68; rw [hc] at S
        obtain ⟨t_69, et_69, eq_68⟩ := bindS eq_68
        refine w_go S rfl (op_call (vs := [.int .i64 8, .int .i64 3, .int .i64 (-100), .int .i64 4]) S rfl cb13 rfl rfl rfl (c13 (Kx K w.heap.size []) n w_67 8 (by decide) 3 (by decide) (-100) (by decide) 4 (by decide) et_69) ?_)
        rintro _ w_73 ⟨v_70, rfl, R_71, hb_72⟩; refine ⟨_, rfl, ?_⟩
        replace R_71 := RepV.back R_71 W
        clear S; intro a S
        replace W := W.step hb_72
        obtain ⟨rfl, GR_71⟩ := RepV.int R_71
        refine wl_pure (l' := [(73, .bool (t_69 != 1)), (72, .bool (t_69 != 1)), (71, .int .i64 t_69), (70, .bool false), (69, .bool false)]) S tys tys_ok 2 (by kernel_rfl) ?_
        clear S; intro a S
        obtain rfl := Option.some.inj eq_68
        exact ⟨S.sub (by exact ⟨rfl, trivial⟩), W⟩
      · rw [if_neg hc] at eq_68; rw [show q_61 = true from (by simpa using hc)] at S
        refine wl_pure (l' := [(73, .bool true), (72, undef), (71, undef), (70, .bool true), (69, .bool true)]) S tys tys_ok 3 (by kernel_rfl) ?_
        clear S; intro a S
        obtain rfl := Option.some.inj eq_68
        exact ⟨S.sub (by exact ⟨rfl, trivial⟩), W⟩
    clear S W eq_68; rintro a w_74 ⟨S, W⟩
    refine wpList_nil ?_
    refine then_n ?_
    refine wp_cond_split (S.eval (show ev _ _ = some (.bool q_68) from rfl)) ?_ ?_
    · intro hc
      rw [if_pos hc] at h
      refine wp_seq ?_
      refine wp_region_lit ?_
      refine wl_pure (l' := [(0, .bool false), (73, .bool q_68)]) S tys tys_ok 1 (by kernel_rfl) ?_
      clear S; intro a S
      refine wpList_nil ?_
      refine then_n ?_
      replace S := S.sub (l' := [(0, .bool false)]) (by exact ⟨rfl, trivial⟩)
      refine wp_ret ?_
      refine then_r ?_
      obtain rfl := Option.some.inj h
      exact b_ret1 S rfl rfl ⟨_, rfl, RepV.mkBool, W.below⟩
    · intro hc
      rw [if_neg (Bool.eq_false_iff.1 hc)] at h
      refine wp_skip ?_
      refine then_n ?_
      replace S := S.sub (l' := []) trivial
      refine wp_seq ?_
      refine wp_region_lit ?_
      obtain ⟨t_75, et_75, h⟩ := bindS h
      refine w_go S rfl (op_call (vs := [.int .i64 8, .int .i64 3, .int .i64 4, .int .i64 2]) S rfl cb15 rfl rfl rfl (c15 (Kx K w.heap.size []) n w_74 8 (by decide) 3 (by decide) 4 (by decide) 2 (by decide) et_75) ?_)
      rintro _ w_79 ⟨v_76, rfl, R_77, hb_78⟩; refine ⟨_, rfl, ?_⟩
      have NO_ := newO_of R_77 (Nat.le_refl _) hb_78
      replace R_77 := Ow.backO R_77 W
      clear S; intro a S
      replace W := W.newO NO_
      clear NO_
      refine wl_pure (l' := [(9, v_76), (74, v_76)]) S tys tys_ok 1 (by kernel_rfl) ?_
      clear S; intro a S
      refine wpList_nil ?_
      refine then_n ?_
      replace S := S.sub (l' := [(9, v_76)]) (by exact ⟨rfl, trivial⟩)
      refine wp_seq ?_
      refine wp_seq ?_
      refine wp_region_lit ?_
      refine wl_pure (l' := [(75, v_76), (9, v_76)]) S tys tys_ok 1 (by kernel_rfl) ?_
      clear S; intro a S
      refine w_go S rfl (op_len (K := _) S rfl ty37 rfl rfl rfl R_77.read ?_)
      clear S; intro a G_80 S
      refine wl_pure (l' := [(78, .bool ((lenI (⟨t_75.xs, t_75.cap⟩ : Sl (Int))) != 2)), (77, .bool ((lenI (⟨t_75.xs, t_75.cap⟩ : Sl (Int))) != 2)), (76, .int .i64 (lenI (⟨t_75.xs, t_75.cap⟩ : Sl (Int)))), (75, v_76), (9, v_76)]) S tys tys_ok 2 (by kernel_rfl) ?_
      clear S; intro a S
      obtain ⟨q_81, eq_81, h⟩ := bindS h
      refine seg 5 (fun a_ w_ => w_79 = w_ ∧ St 149 a_ [(83, .bool q_81), (9, v_76)]) ?_ ?_
      · by_cases hc : ((lenI (⟨t_75.xs, t_75.cap⟩ : Sl (Int))) != 2) = false
        · rw [if_pos hc] at eq_81; rw [hc] at S
          refine wl_pure (l' := [(79, v_76), (78, .bool false), (77, .bool false), (76, .int .i64 (lenI (⟨t_75.xs, t_75.cap⟩ : Sl (Int)))), (75, v_76), (9, v_76)]) S tys tys_ok 1 (by kernel_rfl) ?_
          clear S; intro a S
          obtain ⟨y_82, ey_82, eq_81⟩ := bindS eq_81
          refine w_go S rfl (op_indexAddr_own S rfl ty37 rfl rfl rfl R_77 rfl ey_82 ?_)
          clear S; intro a g_83 H_85 R_84 S
          refine w_go S rfl (op_load (t := (.int .i64)) (x := y_82) S rfl ty3 rfl rfl rfl R_84 ?_)
          clear S; intro a v_86 R_87 S
          obtain ⟨rfl, GR_87⟩ := RepV.int R_87
          refine wl_pure (l' := [(83, .bool (y_82 != 11)), (82, .bool (y_82 != 11)), (81, .int .i64 y_82), (80, .pointer (some (⟨g_83, (0 : Int).toNat * GT.sz (.int .i64), .none⟩ : Addr))), (79, v_76), (78, .bool false), (77, .bool false), (76, .int .i64 (lenI (⟨t_75.xs, t_75.cap⟩ : Sl (Int)))), (75, v_76), (9, v_76)]) S tys tys_ok 2 (by kernel_rfl) ?_
          clear S; intro a S
          obtain rfl := Option.some.inj eq_81
          exact ⟨rfl, S.sub (by exact ⟨rfl, rfl, trivial⟩)⟩
        · rw [if_neg hc] at eq_81; rw [show ((lenI (⟨t_75.xs, t_75.cap⟩ : Sl (Int))) != 2) = true from (by simpa using hc)] at S
          refine wl_pure (l' := [(83, .bool true), (82, undef), (81, undef), (80, undef), (79, undef), (78, .bool true), (77, .bool true), (76, .int .i64 (lenI (⟨t_75.xs, t_75.cap⟩ : Sl (Int)))), (75, v_76), (9, v_76)]) S tys tys_ok 5 (by kernel_rfl) ?_
          clear S; intro a S
          obtain rfl := Option.some.inj eq_81
          exact ⟨rfl, S.sub (by exact ⟨rfl, rfl, trivial⟩)⟩
      clear S eq_81; rintro a _ ⟨rfl, S⟩
      refine wl_pure (l' := [(84, .bool q_81), (83, .bool q_81), (9, v_76)]) S tys tys_ok 1 (by kernel_rfl) ?_
      clear S; intro a S
      obtain ⟨q_88, eq_88, h⟩ := bindS h
      refine seg 5 (fun a_ w_ => w_79 = w_ ∧ St 149 a_ [(89, .bool q_88)]) ?_ ?_
      · by_cases hc : q_81 = false
        · rw [if_pos hc] at eq_88; rw [hc] at S
          refine wl_pure (l' := [(85, v_76), (84, .bool false), (83, .bool false), (9, v_76)]) S tys tys_ok 1 (by kernel_rfl) ?_
          clear S; intro a S
          obtain ⟨y_89, ey_89, eq_88⟩ := bindS eq_88
          refine w_go S rfl (op_indexAddr_own S rfl ty37 rfl rfl rfl R_77 rfl ey_89 ?_)
          clear S; intro a g_90 H_92 R_91 S
          refine w_go S rfl (op_load (t := (.int .i64)) (x := y_89) S rfl ty3 rfl rfl rfl R_91 ?_)
          clear S; intro a v_93 R_94 S
          obtain ⟨rfl, GR_94⟩ := RepV.int R_94
          refine wl_pure (l' := [(89, .bool (y_89 != 19)), (88, .bool (y_89 != 19)), (87, .int .i64 y_89), (86, .pointer (some (⟨g_90, (1 : Int).toNat * GT.sz (.int .i64), .none⟩ : Addr))), (85, v_76), (84, .bool false), (83, .bool false), (9, v_76)]) S tys tys_ok 2 (by kernel_rfl) ?_
          clear S; intro a S
          obtain rfl := Option.some.inj eq_88
          exact ⟨rfl, S.sub (by exact ⟨rfl, trivial⟩)⟩
        · rw [if_neg hc] at eq_88; rw [show q_81 = true from (by simpa using hc)] at S
          refine wl_pure (l' := [(89, .bool true), (88, undef), (87, undef), (86, undef), (85, undef), (84, .bool true), (83, .bool true), (9, v_76)]) S tys tys_ok 5 (by kernel_rfl) ?_
          clear S; intro a S
          obtain rfl := Option.some.inj eq_88
          exact ⟨rfl, S.sub (by exact ⟨rfl, trivial⟩)⟩
      clear S eq_88; rintro a _ ⟨rfl, S⟩
      refine wpList_nil ?_
      refine then_n ?_
      refine wp_cond_split (S.eval (show ev _ _ = some (.bool q_88) from rfl)) ?_ ?_
      · intro hc
        rw [if_pos hc] at h
        refine wp_seq ?_
        refine wp_region_lit ?_
        refine wl_pure (l' := [(0, .bool false), (89, .bool q_88)]) S tys tys_ok 1 (by kernel_rfl) ?_
        clear S; intro a S
        refine wpList_nil ?_
        refine then_n ?_
        replace S := S.sub (l' := [(0, .bool false)]) (by exact ⟨rfl, trivial⟩)
        refine wp_ret ?_
        refine then_r ?_
        obtain rfl := Option.some.inj h
        exact b_ret1 S rfl rfl ⟨_, rfl, RepV.mkBool, W.below⟩
      · intro hc
        rw [if_neg (Bool.eq_false_iff.1 hc)] at h
        refine wp_skip ?_
        refine then_n ?_
        replace S := S.sub (l' := []) trivial
        refine wp_seq ?_
        refine wp_region_lit ?_
        refine w_go S rfl (op_build (K := (Kx K w.heap.size [v_76.ownBlock])) (f := (.pair .bool (.pair (.int .u8) (.pair (.int .i64) (.pair (.sl (.sl (.int .u8))) (.int .i64)))))) (z0 := (false, 0, 0, ⟨[], some 0⟩, 0)) (x := (true, 1, 8, ⟨[], some 0⟩, 3)) (vs := [.bool true, .int .u8 1, .int .i64 8, .int .i64 3]) S _ rfl ty42 z42 (fun w K => ⟨[.bool false], [.int .u8 0, .int .i64 0, .slice .none 0 0, .int .i64 0], rfl, rfl, ⟨[.int .u8 0], [.int .i64 0, .slice .none 0 0, .int .i64 0], rfl, ⟨rfl, by decide⟩, ⟨[.int .i64 0], [.slice .none 0 0, .int .i64 0], rfl, ⟨rfl, by decide⟩, ⟨[.slice .none 0 0], [.int .i64 0], rfl, ⟨.none, 0, 0, rfl, rfl, Nat.le_refl _, by decide, fun k h => Option.some.inj h, .inl rfl⟩, ⟨rfl, by decide⟩⟩⟩⟩⟩) rfl rfl rfl [(0, .bool true), (1, .int .u8 1), (2, .int .i64 8), (4, .int .i64 3)] rfl ⟨_, RepV.mkBool, rfl, rfl, ⟨_, (RepV.mkInt (by decide)), rfl, rfl, ⟨_, (RepV.mkInt (by decide)), rfl, rfl, ⟨_, (RepV.mkInt (by decide)), rfl, rfl, rfl⟩⟩⟩⟩ ?_)
        clear S; intro a v_95 R_96 S
        obtain ⟨t_97, et_97, h⟩ := bindS h
        refine w_go S rfl (op_call (vs := [v_95]) S rfl cb18 rfl rfl rfl (c18 (Kx K w.heap.size [v_76.ownBlock]) n w_79 (true, 1, 8, ⟨[], some 0⟩, 3) _ R_96 et_97) ?_)
        rintro _ w_103 ⟨v_98, v_99, rfl, R_100, R_101, hb_102⟩; refine ⟨_, rfl, ?_⟩
        replace R_100 := RepV.back R_100 W
        replace R_101 := RepV.back R_101 W
        clear S; intro a S
        replace R_96 := R_96.step hb_102
        replace W := W.step hb_102
        obtain ⟨rfl, GR_101⟩ := RepV.int R_101
        refine wl_pure (l' := [(94, .int .i64 t_97.2), (93, v_98), (90, .tuple #[v_98, .int .i64 t_97.2]), (92, .tuple #[v_98, .int .i64 t_97.2]), (91, v_95)]) S tys tys_ok 3 (by kernel_rfl) ?_
        clear S; intro a S
        refine w_go S rfl (op_alloc (K := K) (n := w.heap.size) (L := [v_76.ownBlock]) (t := (.st (.pair (.st (.pair .bool (.pair (.int .u8) (.pair (.int .i64) (.pair (.sl (.sl (.int .u8))) (.int .i64)))))) (.pair (.int .i64) (.sl (.st (.pair (.int .i64) (.sl (.int .u8))))))))) (y := ((false, 0, 0, ⟨[], some 0⟩, 0), 0, ⟨[], some 0⟩)) S rfl rfl rfl _ z47 (fun w K => ⟨[.bool false, .int .u8 0, .int .i64 0, .slice .none 0 0, .int .i64 0], [.int .i64 0, .slice .none 0 0], rfl, ⟨[.bool false], [.int .u8 0, .int .i64 0, .slice .none 0 0, .int .i64 0], rfl, rfl, ⟨[.int .u8 0], [.int .i64 0, .slice .none 0 0, .int .i64 0], rfl, ⟨rfl, by decide⟩, ⟨[.int .i64 0], [.slice .none 0 0, .int .i64 0], rfl, ⟨rfl, by decide⟩, ⟨[.slice .none 0 0], [.int .i64 0], rfl, ⟨.none, 0, 0, rfl, rfl, Nat.le_refl _, by decide, fun k h => Option.some.inj h, .inl rfl⟩, ⟨rfl, by decide⟩⟩⟩⟩⟩, ⟨[.int .i64 0], [.slice .none 0 0], rfl, ⟨rfl, by decide⟩, ⟨.none, 0, 0, rfl, rfl, Nat.le_refl _, by decide, fun k h => Option.some.inj h, .inl rfl⟩⟩⟩) ?_)
        clear S; intro a w_106 b_104 hb_107 B_105 S
        replace R_96 := R_96.box hb_107
        replace R_100 := R_100.box hb_107
        replace W := W.box hb_107
        refine w_go S rfl (op_store (t' := (.st (.pair (.st (.pair .bool (.pair (.int .u8) (.pair (.int .i64) (.pair (.sl (.sl (.int .u8))) (.int .i64)))))) (.pair (.int .i64) (.sl (.st (.pair (.int .i64) (.sl (.int .u8))))))))) S rfl rfl ty47 rfl rfl rfl B_105 (by simp) Ln.whole R_100 ?_)
        intro w_108 hw_109 B_
        replace R_96 := R_96.wrote hw_109 (by simp)
        replace R_100 := R_100.wrote hw_109 (by simp)
        replace W := W.wrote hw_109 (by simp)
        replace B_105 : Bx (.st (.pair (.st (.pair .bool (.pair (.int .u8) (.pair (.int .i64) (.pair (.sl (.sl (.int .u8))) (.int .i64)))))) (.pair (.int .i64) (.sl (.st (.pair (.int .i64) (.sl (.int .u8)))))))) 47 w_108 (Kx K w.heap.size [some b_104, v_76.ownBlock]) b_104 t_97.1 := B_; clear B_
        refine wl_pure (l' := [(2, .int .i64 t_97.2), (10, .pointer (some (⟨b_104, 0, .none⟩ : Addr))), (94, .int .i64 t_97.2), (93, v_98), (90, .tuple #[v_98, .int .i64 t_97.2]), (92, .tuple #[v_98, .int .i64 t_97.2]), (91, v_95)]) S tys tys_ok 1 (by kernel_rfl) ?_
        clear S; intro a S
        refine wpList_nil ?_
        refine then_n ?_
        replace S := S.sub (l' := [(2, .int .i64 t_97.2), (10, .pointer (some (⟨b_104, 0, .none⟩ : Addr)))]) (by exact ⟨rfl, rfl, trivial⟩)
        refine wp_seq ?_
        refine wp_region_lit ?_
        refine w_go S rfl (op_load (t := (.st (.pair (.st (.pair .bool (.pair (.int .u8) (.pair (.int .i64) (.pair (.sl (.sl (.int .u8))) (.int .i64)))))) (.pair (.int .i64) (.sl (.st (.pair (.int .i64) (.sl (.int .u8))))))))) (x := t_97.1) S rfl ty47 rfl rfl rfl B_105.at_ ?_)
        clear S; intro a v_110 R_111 S
        refine w_go S rfl (op_buildSlice (K := K) (e := (.int .u8)) (vs := [.int .u8 1, .int .u8 2]) (xs := [1, 2]) S W rfl ty51 rfl rfl (by kernel_rfl) rfl rfl rfl rfl rfl ⟨(RepV.mkInt (by decide)), (RepV.mkInt (by decide)), trivial⟩ ?_)
        clear S; intro a w_115 v_112 hb_114 R_113 S
        replace R_111 := R_111.step hb_114
        replace B_105 := B_105.step hb_114
        replace W := W.step hb_114
        refine w_go S rfl (op_build (K := (Kx K w.heap.size [some b_104, v_76.ownBlock])) (f := (.pair (.int .u8) (.sl (.int .u8)))) (z0 := (0, ⟨[], some 0⟩)) (x := (1, (⟨[1, 2], some 2⟩ : Sl (Int)))) (vs := [.int .u8 1, v_112]) S _ rfl ty61 z61 (fun w K => ⟨[.int .u8 0], [.slice .none 0 0], rfl, ⟨rfl, by decide⟩, ⟨.none, 0, 0, rfl, rfl, Nat.le_refl _, by decide, fun k h => Option.some.inj h, .inl rfl⟩⟩) rfl rfl rfl [(0, .int .u8 1), (1, v_112)] rfl ⟨_, (RepV.mkInt (by decide)), rfl, rfl, ⟨_, R_113, rfl, rfl, rfl⟩⟩ ?_)
        clear S; intro a v_116 R_117 S
        obtain ⟨t_118, et_118, h⟩ := bindS h
        refine w_go S rfl (op_call (vs := [v_110, v_116]) S rfl cb21 rfl rfl rfl (c21 (Kx K w.heap.size [some b_104, v_76.ownBlock]) n w_115 t_97.1 _ R_111 (1, (⟨[1, 2], some 2⟩ : Sl (Int))) _ R_117 et_118) ?_)
        rintro _ w_122 ⟨v_119, rfl, R_120, hb_121⟩; refine ⟨_, rfl, ?_⟩
        replace R_120 := RepV.back R_120 W
        clear S; intro a S
        replace R_111 := R_111.step hb_121
        replace R_113 := R_113.step hb_121
        replace R_117 := R_117.step hb_121
        replace B_105 := B_105.step hb_121
        replace W := W.step hb_121
        refine w_go S rfl (op_store (t' := (.st (.pair (.st (.pair .bool (.pair (.int .u8) (.pair (.int .i64) (.pair (.sl (.sl (.int .u8))) (.int .i64)))))) (.pair (.int .i64) (.sl (.st (.pair (.int .i64) (.sl (.int .u8))))))))) S rfl rfl ty47 rfl rfl rfl B_105 (by simp) Ln.whole R_120 ?_)
        intro w_123 hw_124 B_
        replace R_111 := R_111.wrote hw_124 (by simp)
        replace R_113 := R_113.wrote hw_124 (by simp)
        replace R_117 := R_117.wrote hw_124 (by simp)
        replace R_120 := R_120.wrote hw_124 (by simp)
        replace W := W.wrote hw_124 (by simp)
        replace B_105 : Bx (.st (.pair (.st (.pair .bool (.pair (.int .u8) (.pair (.int .i64) (.pair (.sl (.sl (.int .u8))) (.int .i64)))))) (.pair (.int .i64) (.sl (.st (.pair (.int .i64) (.sl (.int .u8)))))))) 47 w_123 (Kx K w.heap.size [some b_104, v_76.ownBlock]) b_104 t_118 := B_; clear B_
        refine wpList_nil ?_
        refine then_n ?_
        replace S := S.sub (l' := [(2, .int .i64 t_97.2), (10, .pointer (some (⟨b_104, 0, .none⟩ : Addr)))]) (by exact ⟨rfl, rfl, trivial⟩)
        refine wp_seq ?_
        refine wp_region_lit ?_
        refine w_go S rfl (op_load (t := (.st (.pair (.st (.pair .bool (.pair (.int .u8) (.pair (.int .i64) (.pair (.sl (.sl (.int .u8))) (.int .i64)))))) (.pair (.int .i64) (.sl (.st (.pair (.int .i64) (.sl (.int .u8))))))))) (x := t_118) S rfl ty47 rfl rfl rfl B_105.at_ ?_)
        clear S; intro a v_125 R_126 S
        refine w_go S rfl (op_build (K := (Kx K w.heap.size [some b_104, v_76.ownBlock])) (f := (.pair (.int .u8) (.sl (.int .u8)))) (z0 := (0, ⟨[], some 0⟩)) (x := (4, ⟨[], some 0⟩)) (vs := [.int .u8 4]) S _ rfl ty61 z61 (fun w K => ⟨[.int .u8 0], [.slice .none 0 0], rfl, ⟨rfl, by decide⟩, ⟨.none, 0, 0, rfl, rfl, Nat.le_refl _, by decide, fun k h => Option.some.inj h, .inl rfl⟩⟩) rfl rfl rfl [(0, .int .u8 4)] rfl ⟨_, (RepV.mkInt (by decide)), rfl, rfl, rfl⟩ ?_)
        clear S; intro a v_127 R_128 S
        obtain ⟨t_129, et_129, h⟩ := bindS h
        refine w_go S rfl (op_call (vs := [v_125, v_127]) S rfl cb21 rfl rfl rfl (c21 (Kx K w.heap.size [some b_104, v_76.ownBlock]) n w_123 t_118 _ R_126 (4, ⟨[], some 0⟩) _ R_128 et_129) ?_)
        rintro _ w_133 ⟨v_130, rfl, R_131, hb_132⟩; refine ⟨_, rfl, ?_⟩
        replace R_131 := RepV.back R_131 W
        clear S; intro a S
        replace R_126 := R_126.step hb_132
        replace R_128 := R_128.step hb_132
        replace B_105 := B_105.step hb_132
        replace W := W.step hb_132
        refine w_go S rfl (op_store (t' := (.st (.pair (.st (.pair .bool (.pair (.int .u8) (.pair (.int .i64) (.pair (.sl (.sl (.int .u8))) (.int .i64)))))) (.pair (.int .i64) (.sl (.st (.pair (.int .i64) (.sl (.int .u8))))))))) S rfl rfl ty47 rfl rfl rfl B_105 (by simp) Ln.whole R_131 ?_)
        intro w_134 hw_135 B_
        replace R_126 := R_126.wrote hw_135 (by simp)
        replace R_128 := R_128.wrote hw_135 (by simp)
        replace R_131 := R_131.wrote hw_135 (by simp)
        replace W := W.wrote hw_135 (by simp)
        replace B_105 : Bx (.st (.pair (.st (.pair .bool (.pair (.int .u8) (.pair (.int .i64) (.pair (.sl (.sl (.int .u8))) (.int .i64)))))) (.pair (.int .i64) (.sl (.st (.pair (.int .i64) (.sl (.int .u8)))))))) 47 w_134 (Kx K w.heap.size [some b_104, v_76.ownBlock]) b_104 t_129 := B_; clear B_
        refine wpList_nil ?_
        refine then_n ?_
        replace S := S.sub (l' := [(2, .int .i64 t_97.2), (10, .pointer (some (⟨b_104, 0, .none⟩ : Addr)))]) (by exact ⟨rfl, rfl, trivial⟩)
        refine wp_seq ?_
        refine wp_region_lit ?_
        refine w_go S rfl (op_load (t := (.st (.pair (.st (.pair .bool (.pair (.int .u8) (.pair (.int .i64) (.pair (.sl (.sl (.int .u8))) (.int .i64)))))) (.pair (.int .i64) (.sl (.st (.pair (.int .i64) (.sl (.int .u8))))))))) (x := t_129) S rfl ty47 rfl rfl rfl B_105.at_ ?_)
        clear S; intro a v_136 R_137 S
        refine w_go S rfl (op_build (K := (Kx K w.heap.size [some b_104, v_76.ownBlock])) (f := (.pair (.int .u8) (.sl (.int .u8)))) (z0 := (0, ⟨[], some 0⟩)) (x := (1, ⟨[], some 0⟩)) (vs := [.int .u8 1]) S _ rfl ty61 z61 (fun w K => ⟨[.int .u8 0], [.slice .none 0 0], rfl, ⟨rfl, by decide⟩, ⟨.none, 0, 0, rfl, rfl, Nat.le_refl _, by decide, fun k h => Option.some.inj h, .inl rfl⟩⟩) rfl rfl rfl [(0, .int .u8 1)] rfl ⟨_, (RepV.mkInt (by decide)), rfl, rfl, rfl⟩ ?_)
        clear S; intro a v_138 R_139 S
        obtain ⟨t_140, et_140, h⟩ := bindS h
        refine w_go S rfl (op_call (vs := [v_136, v_138]) S rfl cb21 rfl rfl rfl (c21 (Kx K w.heap.size [some b_104, v_76.ownBlock]) n w_134 t_129 _ R_137 (1, ⟨[], some 0⟩) _ R_139 et_140) ?_)
        rintro _ w_144 ⟨v_141, rfl, R_142, hb_143⟩; refine ⟨_, rfl, ?_⟩
        replace R_142 := RepV.back R_142 W
        clear S; intro a S
        replace R_137 := R_137.step hb_143
        replace R_139 := R_139.step hb_143
        replace B_105 := B_105.step hb_143
        replace W := W.step hb_143
        refine w_go S rfl (op_store (t' := (.st (.pair (.st (.pair .bool (.pair (.int .u8) (.pair (.int .i64) (.pair (.sl (.sl (.int .u8))) (.int .i64)))))) (.pair (.int .i64) (.sl (.st (.pair (.int .i64) (.sl (.int .u8))))))))) S rfl rfl ty47 rfl rfl rfl B_105 (by simp) Ln.whole R_142 ?_)
        intro w_145 hw_146 B_
        replace R_137 := R_137.wrote hw_146 (by simp)
        replace R_139 := R_139.wrote hw_146 (by simp)
        replace R_142 := R_142.wrote hw_146 (by simp)
        replace W := W.wrote hw_146 (by simp)
        replace B_105 : Bx (.st (.pair (.st (.pair .bool (.pair (.int .u8) (.pair (.int .i64) (.pair (.sl (.sl (.int .u8))) (.int .i64)))))) (.pair (.int .i64) (.sl (.st (.pair (.int .i64) (.sl (.int .u8)))))))) 47 w_145 (Kx K w.heap.size [some b_104, v_76.ownBlock]) b_104 t_140 := B_; clear B_
        refine wpList_nil ?_
        refine then_n ?_
        replace S := S.sub (l' := [(2, .int .i64 t_97.2), (10, .pointer (some (⟨b_104, 0, .none⟩ : Addr)))]) (by exact ⟨rfl, rfl, trivial⟩)
        refine wp_seq ?_
        refine wp_region_lit ?_
        refine w_go S rfl (op_load (t := (.st (.pair (.st (.pair .bool (.pair (.int .u8) (.pair (.int .i64) (.pair (.sl (.sl (.int .u8))) (.int .i64)))))) (.pair (.int .i64) (.sl (.st (.pair (.int .i64) (.sl (.int .u8))))))))) (x := t_140) S rfl ty47 rfl rfl rfl B_105.at_ ?_)
        clear S; intro a v_147 R_148 S
        obtain ⟨t_149, et_149, h⟩ := bindS h
        refine w_go S rfl (op_call (vs := [v_147]) S rfl cb20 rfl rfl rfl (c20 (Kx K w.heap.size [some b_104, v_76.ownBlock]) n w_145 t_140 _ R_148 et_149) ?_)
        rintro _ w_155 ⟨v_150, v_151, rfl, R_152, R_153, hb_154⟩; refine ⟨_, rfl, ?_⟩
        have NO_ := newO_of R_152 (Nat.le_refl _) hb_154
        replace R_152 := Ow.backO R_152 W
        replace R_153 := RepV.backO R_153 W
        clear S; intro a S
        replace R_148 := R_148.newO NO_
        replace B_105 := B_105.newO NO_
        replace W := W.newO NO_
        clear NO_
        obtain rfl := RepV.bool R_153
        refine wl_pure (l' := [(12, .bool t_149.2), (11, v_150), (109, .bool t_149.2), (108, v_150), (105, .tuple #[v_150, .bool t_149.2]), (107, .tuple #[v_150, .bool t_149.2]), (106, v_147), (2, .int .i64 t_97.2), (10, .pointer (some (⟨b_104, 0, .none⟩ : Addr)))]) S tys tys_ok 5 (by kernel_rfl) ?_
        clear S; intro a S
        refine wpList_nil ?_
        refine then_n ?_
        replace S := S.sub (l' := [(12, .bool t_149.2), (11, v_150), (2, .int .i64 t_97.2)]) (by exact ⟨rfl, rfl, rfl, trivial⟩)
        refine wp_seq ?_
        refine wp_region_lit ?_
        refine wl_pure (l' := [(112, .bool (t_97.2 == 0)), (111, .bool (t_97.2 == 0)), (110, .int .i64 t_97.2), (12, .bool t_149.2), (11, v_150), (2, .int .i64 t_97.2)]) S tys tys_ok 3 (by kernel_rfl) ?_
        clear S; intro a S
        obtain ⟨q_156, eq_156, h⟩ := bindS h
        refine seg 2 (fun a_ w_ => w_155 = w_ ∧ St 149 a_ [(114, .bool q_156), (11, v_150)]) ?_ ?_
        · by_cases hc : (t_97.2 == 0) = true
          · rw [if_pos hc] at eq_156; rw [hc] at S
            refine wl_pure (l' := [(114, .bool t_149.2), (113, .bool t_149.2), (112, .bool true), (111, .bool true), (110, .int .i64 t_97.2), (12, .bool t_149.2), (11, v_150), (2, .int .i64 t_97.2)]) S tys tys_ok 2 (by kernel_rfl) ?_
            clear S; intro a S
            obtain rfl := Option.some.inj eq_156
            exact ⟨rfl, S.sub (by exact ⟨rfl, rfl, trivial⟩)⟩
          · rw [if_neg hc] at eq_156; rw [show (t_97.2 == 0) = false from Bool.eq_false_iff.2 hc] at S
            refine wl_pure (l' := [(114, .bool false), (113, undef), (112, .bool false), (111, .bool false), (110, .int .i64 t_97.2), (12, .bool t_149.2), (11, v_150), (2, .int .i64 t_97.2)]) S tys tys_ok 2 (by kernel_rfl) ?_
            clear S; intro a S
            obtain rfl := Option.some.inj eq_156
            exact ⟨rfl, S.sub (by exact ⟨rfl, rfl, trivial⟩)⟩
        clear S eq_156; rintro a _ ⟨rfl, S⟩
        refine wl_pure (l' := [(115, .bool q_156), (114, .bool q_156), (11, v_150)]) S tys tys_ok 1 (by kernel_rfl) ?_
        clear S; intro a S
        obtain ⟨q_157, eq_157, h⟩ := bindS h
        refine seg 4 (fun a_ w_ => w_155 = w_ ∧ St 149 a_ [(119, .bool q_157), (11, v_150)]) ?_ ?_
        · by_cases hc : q_156 = true
          · rw [if_pos hc] at eq_157; rw [hc] at S
            refine wl_pure (l' := [(116, v_150), (115, .bool true), (114, .bool true), (11, v_150)]) S tys tys_ok 1 (by kernel_rfl) ?_
            clear S; intro a S
            refine w_go S rfl (op_len (K := _) S rfl ty45 rfl rfl rfl R_152.read ?_)
            clear S; intro a G_158 S
            refine wl_pure (l' := [(119, .bool ((lenI (⟨t_149.1.xs, t_149.1.cap⟩ : Sl (Int × (Sl (Int))))) == 3)), (118, .bool ((lenI (⟨t_149.1.xs, t_149.1.cap⟩ : Sl (Int × (Sl (Int))))) == 3)), (117, .int .i64 (lenI (⟨t_149.1.xs, t_149.1.cap⟩ : Sl (Int × (Sl (Int)))))), (116, v_150), (115, .bool true), (114, .bool true), (11, v_150)]) S tys tys_ok 2 (by kernel_rfl) ?_
            clear S; intro a S
            obtain rfl := Option.some.inj eq_157
            exact ⟨rfl, S.sub (by exact ⟨rfl, rfl, trivial⟩)⟩
          · rw [if_neg hc] at eq_157; rw [show q_156 = false from Bool.eq_false_iff.2 hc] at S
            refine wl_pure (l' := [(119, .bool false), (118, undef), (117, undef), (116, undef), (115, .bool false), (114, .bool false), (11, v_150)]) S tys tys_ok 4 (by kernel_rfl) ?_
            clear S; intro a S
            obtain rfl := Option.some.inj eq_157
            exact ⟨rfl, S.sub (by exact ⟨rfl, rfl, trivial⟩)⟩
        clear S eq_157; rintro a _ ⟨rfl, S⟩
        refine wl_pure (l' := [(120, .bool q_157), (119, .bool q_157), (11, v_150)]) S tys tys_ok 1 (by kernel_rfl) ?_
        clear S; intro a S
        obtain ⟨q_159, eq_159, h⟩ := bindS h
        refine seg 7 (fun a_ w_ => w_155 = w_ ∧ St 149 a_ [(127, .bool q_159), (11, v_150)]) ?_ ?_
        · by_cases hc : q_157 = true
          · rw [if_pos hc] at eq_159; rw [hc] at S
            refine wl_pure (l' := [(121, v_150), (120, .bool true), (119, .bool true), (11, v_150)]) S tys tys_ok 1 (by kernel_rfl) ?_
            clear S; intro a S
            obtain ⟨y_160, ey_160, eq_159⟩ := bindS eq_159
            refine w_go S rfl (op_indexAddr_own S rfl ty45 rfl rfl rfl R_152 rfl ey_160 ?_)
            clear S; intro a g_161 H_163 R_162 S
            refine wl_pure (l' := [(123, .pointer (some ((⟨g_161, (0 : Int).toNat * GT.sz (.st (.pair (.int .i64) (.sl (.int .u8)))), .none⟩ : Addr).add (coff (.pair (.int .i64) (.sl (.int .u8))) 1)))), (122, .pointer (some (⟨g_161, (0 : Int).toNat * GT.sz (.st (.pair (.int .i64) (.sl (.int .u8)))), .none⟩ : Addr))), (121, v_150), (120, .bool true), (119, .bool true), (11, v_150)]) S tys tys_ok 1 (by kernel_rfl) ?_
            clear S; intro a S
            refine w_go S rfl (op_load (t := (.sl (.int .u8))) (x := y_160.2) S rfl ty51 rfl rfl rfl (RepAt.add 1 (RepAt.st (t := (.pair (.int .i64) (.sl (.int .u8)))) R_162)) ?_)
            clear S; intro a v_164 R_165 S
            refine w_go S rfl (op_str (K := _) S rfl ty51 ty9 rfl rfl rfl R_165 ?_)
            clear S; intro a S
            refine w_go S rfl (op_streq S rfl rfl rfl rfl (by kernel_rfl) (R_165.byt).1 ((strG ([1, 2]) (by decide) (by decide))).1 ?_)
            clear S; intro a S
            refine wl_pure (l' := [(127, .bool (decide (y_160.2.xs = [1, 2]))), (126, .bool (decide (y_160.2.xs = [1, 2]))), (125, .string (strOfNums y_160.2.xs)), (124, v_164), (123, .pointer (some ((⟨g_161, (0 : Int).toNat * GT.sz (.st (.pair (.int .i64) (.sl (.int .u8)))), .none⟩ : Addr).add (coff (.pair (.int .i64) (.sl (.int .u8))) 1)))), (122, .pointer (some (⟨g_161, (0 : Int).toNat * GT.sz (.st (.pair (.int .i64) (.sl (.int .u8)))), .none⟩ : Addr))), (121, v_150), (120, .bool true), (119, .bool true), (11, v_150)]) S tys tys_ok 1 (by kernel_rfl) ?_
            clear S; intro a S
            obtain rfl := Option.some.inj eq_159
            exact ⟨rfl, S.sub (by exact ⟨rfl, rfl, trivial⟩)⟩
          · rw [if_neg hc] at eq_159; rw [show q_157 = false from Bool.eq_false_iff.2 hc] at S
            refine wl_pure (l' := [(127, .bool false), (126, undef), (125, undef), (124, undef), (123, undef), (122, undef), (121, undef), (120, .bool false), (119, .bool false), (11, v_150)]) S tys tys_ok 7 (by kernel_rfl) ?_
            clear S; intro a S
            obtain rfl := Option.some.inj eq_159
            exact ⟨rfl, S.sub (by exact ⟨rfl, rfl, trivial⟩)⟩
        clear S eq_159; rintro a _ ⟨rfl, S⟩
        refine wl_pure (l' := [(128, .bool q_159), (127, .bool q_159), (11, v_150)]) S tys tys_ok 1 (by kernel_rfl) ?_
        clear S; intro a S
        obtain ⟨q_166, eq_166, h⟩ := bindS h
        refine seg 6 (fun a_ w_ => w_155 = w_ ∧ St 149 a_ [(134, .bool q_166), (11, v_150)]) ?_ ?_
        · by_cases hc : q_159 = true
          · rw [if_pos hc] at eq_166; rw [hc] at S
            refine wl_pure (l' := [(129, v_150), (128, .bool true), (127, .bool true), (11, v_150)]) S tys tys_ok 1 (by kernel_rfl) ?_
            clear S; intro a S
            obtain ⟨y_167, ey_167, eq_166⟩ := bindS eq_166
            refine w_go S rfl (op_indexAddr_own S rfl ty45 rfl rfl rfl R_152 rfl ey_167 ?_)
            clear S; intro a g_168 H_170 R_169 S
            refine wl_pure (l' := [(131, .pointer (some ((⟨g_168, (0 : Int).toNat * GT.sz (.st (.pair (.int .i64) (.sl (.int .u8)))), .none⟩ : Addr).add (coff (.pair (.int .i64) (.sl (.int .u8))) 0)))), (130, .pointer (some (⟨g_168, (0 : Int).toNat * GT.sz (.st (.pair (.int .i64) (.sl (.int .u8)))), .none⟩ : Addr))), (129, v_150), (128, .bool true), (127, .bool true), (11, v_150)]) S tys tys_ok 1 (by kernel_rfl) ?_
            clear S; intro a S
            refine w_go S rfl (op_load (t := (.int .i64)) (x := y_167.1) S rfl ty23 rfl rfl rfl (RepAt.add 0 (RepAt.st (t := (.pair (.int .i64) (.sl (.int .u8)))) R_169)) ?_)
            clear S; intro a v_171 R_172 S
            obtain ⟨rfl, GR_172⟩ := RepV.int R_172
            refine wl_pure (l' := [(134, .bool (y_167.1 == 0)), (133, .bool (y_167.1 == 0)), (132, .int .i64 y_167.1), (131, .pointer (some ((⟨g_168, (0 : Int).toNat * GT.sz (.st (.pair (.int .i64) (.sl (.int .u8)))), .none⟩ : Addr).add (coff (.pair (.int .i64) (.sl (.int .u8))) 0)))), (130, .pointer (some (⟨g_168, (0 : Int).toNat * GT.sz (.st (.pair (.int .i64) (.sl (.int .u8)))), .none⟩ : Addr))), (129, v_150), (128, .bool true), (127, .bool true), (11, v_150)]) S tys tys_ok 2 (by kernel_rfl) ?_
            clear S; intro a S
            obtain rfl := Option.some.inj eq_166
            exact ⟨rfl, S.sub (by exact ⟨rfl, rfl, trivial⟩)⟩
          · rw [if_neg hc] at eq_166; rw [show q_159 = false from Bool.eq_false_iff.2 hc] at S
            refine wl_pure (l' := [(134, .bool false), (133, undef), (132, undef), (131, undef), (130, undef), (129, undef), (128, .bool false), (127, .bool false), (11, v_150)]) S tys tys_ok 6 (by kernel_rfl) ?_
            clear S; intro a S
            obtain rfl := Option.some.inj eq_166
            exact ⟨rfl, S.sub (by exact ⟨rfl, rfl, trivial⟩)⟩
        clear S eq_166; rintro a _ ⟨rfl, S⟩
        refine wl_pure (l' := [(135, .bool q_166), (134, .bool q_166), (11, v_150)]) S tys tys_ok 1 (by kernel_rfl) ?_
        clear S; intro a S
        obtain ⟨q_173, eq_173, h⟩ := bindS h
        refine seg 6 (fun a_ w_ => w_155 = w_ ∧ St 149 a_ [(141, .bool q_173), (11, v_150)]) ?_ ?_
        · by_cases hc : q_166 = true
          · rw [if_pos hc] at eq_173; rw [hc] at S
            refine wl_pure (l' := [(136, v_150), (135, .bool true), (134, .bool true), (11, v_150)]) S tys tys_ok 1 (by kernel_rfl) ?_
            clear S; intro a S
            obtain ⟨y_174, ey_174, eq_173⟩ := bindS eq_173
            refine w_go S rfl (op_indexAddr_own S rfl ty45 rfl rfl rfl R_152 rfl ey_174 ?_)
            clear S; intro a g_175 H_177 R_176 S
            refine wl_pure (l' := [(138, .pointer (some ((⟨g_175, (1 : Int).toNat * GT.sz (.st (.pair (.int .i64) (.sl (.int .u8)))), .none⟩ : Addr).add (coff (.pair (.int .i64) (.sl (.int .u8))) 0)))), (137, .pointer (some (⟨g_175, (1 : Int).toNat * GT.sz (.st (.pair (.int .i64) (.sl (.int .u8)))), .none⟩ : Addr))), (136, v_150), (135, .bool true), (134, .bool true), (11, v_150)]) S tys tys_ok 1 (by kernel_rfl) ?_
            clear S; intro a S
            refine w_go S rfl (op_load (t := (.int .i64)) (x := y_174.1) S rfl ty23 rfl rfl rfl (RepAt.add 0 (RepAt.st (t := (.pair (.int .i64) (.sl (.int .u8)))) R_176)) ?_)
            clear S; intro a v_178 R_179 S
            obtain ⟨rfl, GR_179⟩ := RepV.int R_179
            refine wl_pure (l' := [(141, .bool (y_174.1 == 11)), (140, .bool (y_174.1 == 11)), (139, .int .i64 y_174.1), (138, .pointer (some ((⟨g_175, (1 : Int).toNat * GT.sz (.st (.pair (.int .i64) (.sl (.int .u8)))), .none⟩ : Addr).add (coff (.pair (.int .i64) (.sl (.int .u8))) 0)))), (137, .pointer (some (⟨g_175, (1 : Int).toNat * GT.sz (.st (.pair (.int .i64) (.sl (.int .u8)))), .none⟩ : Addr))), (136, v_150), (135, .bool true), (134, .bool true), (11, v_150)]) S tys tys_ok 2 (by kernel_rfl) ?_
            clear S; intro a S
            obtain rfl := Option.some.inj eq_173
            exact ⟨rfl, S.sub (by exact ⟨rfl, rfl, trivial⟩)⟩
          · rw [if_neg hc] at eq_173; rw [show q_166 = false from Bool.eq_false_iff.2 hc] at S
            refine wl_pure (l' := [(141, .bool false), (140, undef), (139, undef), (138, undef), (137, undef), (136, undef), (135, .bool false), (134, .bool false), (11, v_150)]) S tys tys_ok 6 (by kernel_rfl) ?_
            clear S; intro a S
            obtain rfl := Option.some.inj eq_173
            exact ⟨rfl, S.sub (by exact ⟨rfl, rfl, trivial⟩)⟩
        clear S eq_173; rintro a _ ⟨rfl, S⟩
        refine wl_pure (l' := [(142, .bool q_173), (141, .bool q_173), (11, v_150)]) S tys tys_ok 1 (by kernel_rfl) ?_
        clear S; intro a S
        obtain ⟨q_180, eq_180, h⟩ := bindS h
        refine seg 6 (fun a_ w_ => w_155 = w_ ∧ St 149 a_ [(148, .bool q_180)]) ?_ ?_
        · by_cases hc : q_173 = true
          · rw [if_pos hc] at eq_180; rw [hc] at S
            refine wl_pure (l' := [(143, v_150), (142, .bool true), (141, .bool true), (11, v_150)]) S tys tys_ok 1 (by kernel_rfl) ?_
            clear S; intro a S
            obtain ⟨y_181, ey_181, eq_180⟩ := bindS eq_180
            refine w_go S rfl (op_indexAddr_own S rfl ty45 rfl rfl rfl R_152 rfl ey_181 ?_)
            clear S; intro a g_182 H_184 R_183 S
            refine wl_pure (l' := [(145, .pointer (some ((⟨g_182, (2 : Int).toNat * GT.sz (.st (.pair (.int .i64) (.sl (.int .u8)))), .none⟩ : Addr).add (coff (.pair (.int .i64) (.sl (.int .u8))) 0)))), (144, .pointer (some (⟨g_182, (2 : Int).toNat * GT.sz (.st (.pair (.int .i64) (.sl (.int .u8)))), .none⟩ : Addr))), (143, v_150), (142, .bool true), (141, .bool true), (11, v_150)]) S tys tys_ok 1 (by kernel_rfl) ?_
            clear S; intro a S
            refine w_go S rfl (op_load (t := (.int .i64)) (x := y_181.1) S rfl ty23 rfl rfl rfl (RepAt.add 0 (RepAt.st (t := (.pair (.int .i64) (.sl (.int .u8)))) R_183)) ?_)
            clear S; intro a v_185 R_186 S
            obtain ⟨rfl, GR_186⟩ := RepV.int R_186
            refine wl_pure (l' := [(148, .bool (y_181.1 == 0)), (147, .bool (y_181.1 == 0)), (146, .int .i64 y_181.1), (145, .pointer (some ((⟨g_182, (2 : Int).toNat * GT.sz (.st (.pair (.int .i64) (.sl (.int .u8)))), .none⟩ : Addr).add (coff (.pair (.int .i64) (.sl (.int .u8))) 0)))), (144, .pointer (some (⟨g_182, (2 : Int).toNat * GT.sz (.st (.pair (.int .i64) (.sl (.int .u8)))), .none⟩ : Addr))), (143, v_150), (142, .bool true), (141, .bool true), (11, v_150)]) S tys tys_ok 2 (by kernel_rfl) ?_
            clear S; intro a S
            obtain rfl := Option.some.inj eq_180
            exact ⟨rfl, S.sub (by exact ⟨rfl, trivial⟩)⟩
          · rw [if_neg hc] at eq_180; rw [show q_173 = false from Bool.eq_false_iff.2 hc] at S
            refine wl_pure (l' := [(148, .bool false), (147, undef), (146, undef), (145, undef), (144, undef), (143, undef), (142, .bool false), (141, .bool false), (11, v_150)]) S tys tys_ok 6 (by kernel_rfl) ?_
            clear S; intro a S
            obtain rfl := Option.some.inj eq_180
            exact ⟨rfl, S.sub (by exact ⟨rfl, trivial⟩)⟩
        clear S eq_180; rintro a _ ⟨rfl, S⟩
        refine wl_pure (l' := [(0, .bool q_180), (148, .bool q_180)]) S tys tys_ok 1 (by kernel_rfl) ?_
        clear S; intro a S
        refine wpList_nil ?_
        refine then_n ?_
        replace S := S.sub (l' := [(0, .bool q_180)]) (by exact ⟨rfl, trivial⟩)
        refine wp_ret ?_
        obtain rfl := Option.some.inj h
        exact b_ret1 S rfl rfl ⟨_, rfl, RepV.mkBool, W.below⟩
theorem cb10 : callB Try.prog 10 = true := by kernel_rfl
def p11_l1 (n : Nat) (x0 : Int) : Nat → (Int) → Option ((Int))
  | 0, _ => .none
  | m + 1, c_1 => (if (decide (c_1 < 256)) = true then some (c_1 != x0) else some false).bind fun q_10 => if q_10 then ((ckI .i64 (c_1 * 2)).bind fun x_11 => p11_l1 n x0 m x_11) else some c_1
def p11 (n : Nat) (x0 : Int) (x1 : Int) : Option ((Bool)) :=
  (p11_l1 n x0 n 1).bind fun (y_5 : (Int)) =>
  (if (y_5 == x0) = true then some (decide (x1 ≥ 0)) else some false).bind fun q_13 =>
  (if q_13 = true then some (decide (x1 < x0)) else some false).bind fun q_14 =>
  some q_14
set_option maxHeartbeats 4000000 in
set_option maxRecDepth 100000 in
/-- plugboard/plugboardref10.Possible -/
theorem c11 (K : Nat → Prop) (n : Nat) (w : World) (x0 : Int) (G0 : InR .i64 x0) (x1 : Int) (G1 : InR .i64 x1) {r : (Bool)} (h : p11 n x0 x1 = some r) :
    Calls Try.prog 11 #[.int .i64 x0, .int .i64 x1] w (Ret1 .bool w (Kx K w.heap.size []) r) := by
  refine enter (args := [.int .i64 x0, .int .i64 x1]) Try.func11 rfl 27 rfl rfl fun a S => ?_
  have W := Wd.start w
  unfold p11 at h
  replace S : St 27 a [(0, .int .i64 x0), (1, .int .i64 x1)] := S
  refine wp_seq ?_
  refine wp_region_lit ?_
  refine wl_pure (l' := [(4, .bool false), (0, .int .i64 x0), (1, .int .i64 x1)]) S tys tys_ok 1 (by kernel_rfl) ?_
  clear S; intro a S
  refine wpList_nil ?_
  refine then_n ?_
  replace S := S.sub (l' := [(0, .int .i64 x0), (1, .int .i64 x1)]) (by exact ⟨rfl, rfl, trivial⟩)
  refine wp_seq ?_
  refine wp_region_lit ?_
  refine wl_pure (l' := [(5, .int .i64 1), (0, .int .i64 x0), (1, .int .i64 x1)]) S tys tys_ok 1 (by kernel_rfl) ?_
  clear S; intro a S
  refine wpList_nil ?_
  refine then_n ?_
  refine wp_seq ?_
  obtain ⟨y_5, ey_5, h⟩ := bindS h
  refine wp_cut_ (fun a_ w_ => St 27 a_ [(0, .int .i64 x0), (1, .int .i64 x1), (5, .int .i64 y_5)] ∧ Wd w w_ [] ∧ InR .i64 y_5) ?_ ?_
  · refine wp_block ?_
    refine wp_loop_n (fun m_ a_ w_ => ∃ (c_1 : Int) , St 27 a_ [(5, .int .i64 c_1), (0, .int .i64 x0), (1, .int .i64 x1)] ∧ Wd w w_ [] ∧ InR .i64 c_1 ∧ p11_l1 n x0 m_ c_1 = some y_5) n ?_ ?_
    · skip
      exact ⟨1, ⟨S.sub (by exact ⟨rfl, rfl, rfl, trivial⟩), W, (by decide), ey_5⟩⟩
    · clear S W; rintro m_7 a w_9 ⟨c_1, S, W, G_2, hl_8⟩
      cases m_7 with
      | zero => exact absurd hl_8 (by simp [p11_l1])
      | succ m_7 =>
        refine ⟨m_7, rfl, ?_⟩
        rw [p11_l1] at hl_8
        refine wp_seq ?_
        refine wp_seq ?_
        refine wp_region_lit ?_
        refine wl_pure (l' := [(8, .bool (decide (c_1 < 256))), (7, .bool (decide (c_1 < 256))), (6, .int .i64 c_1), (5, .int .i64 c_1), (0, .int .i64 x0), (1, .int .i64 x1)]) S tys tys_ok 3 (by kernel_rfl) ?_
        clear S; intro a S
        obtain ⟨q_10, eq_10, hl_8⟩ := bindS hl_8
        refine seg 4 (fun a_ w_ => w_9 = w_ ∧ St 27 a_ [(12, .bool q_10), (5, .int .i64 c_1), (0, .int .i64 x0), (1, .int .i64 x1)]) ?_ ?_
        · by_cases hc : (decide (c_1 < 256)) = true
          · rw [if_pos hc] at eq_10; rw [hc] at S
            refine wl_pure (l' := [(12, .bool (c_1 != x0)), (11, .bool (c_1 != x0)), (10, .int .i64 x0), (9, .int .i64 c_1), (8, .bool true), (7, .bool true), (6, .int .i64 c_1), (5, .int .i64 c_1), (0, .int .i64 x0), (1, .int .i64 x1)]) S tys tys_ok 4 (by kernel_rfl) ?_
            clear S; intro a S
            obtain rfl := Option.some.inj eq_10
            exact ⟨rfl, S.sub (by exact ⟨rfl, rfl, rfl, rfl, trivial⟩)⟩
          · rw [if_neg hc] at eq_10; rw [show (decide (c_1 < 256)) = false from Bool.eq_false_iff.2 hc] at S
            refine wl_pure (l' := [(12, .bool false), (11, undef), (10, undef), (9, undef), (8, .bool false), (7, .bool false), (6, .int .i64 c_1), (5, .int .i64 c_1), (0, .int .i64 x0), (1, .int .i64 x1)]) S tys tys_ok 4 (by kernel_rfl) ?_
            clear S; intro a S
            obtain rfl := Option.some.inj eq_10
            exact ⟨rfl, S.sub (by exact ⟨rfl, rfl, rfl, rfl, trivial⟩)⟩
        clear S eq_10; rintro a _ ⟨rfl, S⟩
        refine wpList_nil ?_
        refine then_n ?_
        refine wp_cond_split (S.eval (show ev _ _ = some (.bool q_10) from rfl)) ?_ ?_
        · intro hc
          rw [if_pos hc] at hl_8
          refine wp_skip ?_
          refine then_n ?_
          replace S := S.sub (l' := [(5, .int .i64 c_1), (0, .int .i64 x0), (1, .int .i64 x1)]) (by exact ⟨rfl, rfl, rfl, trivial⟩)
          refine wp_block ?_
          refine wp_region_lit ?_
          refine wl_pure (l' := [(13, .int .i64 c_1), (5, .int .i64 c_1), (0, .int .i64 x0), (1, .int .i64 x1)]) S tys tys_ok 1 (by kernel_rfl) ?_
          clear S; intro a S
          obtain ⟨x_11, ex_11, hl_8⟩ := bindS hl_8
          refine w_go S rfl (op_arith S .i64 (c_1 * 2) rfl (.inr (.inr rfl)) rfl rfl rfl rfl ex_11 ?_)
          clear S; intro a S
          refine wl_pure (l' := [(5, .int .i64 x_11), (14, .int .i64 x_11), (13, .int .i64 c_1), (5, .int .i64 c_1), (0, .int .i64 x0), (1, .int .i64 x1)]) S tys tys_ok 1 (by kernel_rfl) ?_
          clear S; intro a S
          refine wpList_nil ?_
          refine blk_n ?_
          refine then_n ?_
          exact ⟨x_11, ⟨S.sub (by exact ⟨rfl, rfl, rfl, trivial⟩), W, (ckI_some ex_11).2.1, hl_8⟩⟩
        · intro hc
          rw [if_neg (Bool.eq_false_iff.1 hc)] at hl_8
          refine wp_exit ?_
          refine then_x ?_
          refine then_x ?_
          refine blk_hit ?_
          refine then_n ?_
          obtain rfl := Option.some.inj hl_8
          exact ⟨S.sub (by exact ⟨rfl, rfl, rfl, trivial⟩), W, G_2⟩
  clear S W; rintro a w_12 ⟨S, W, G_6⟩
  refine then_n ?_
  refine wp_seq ?_
  refine wp_region_lit ?_
  refine wl_pure (l' := [(18, .bool (y_5 == x0)), (17, .bool (y_5 == x0)), (16, .int .i64 x0), (15, .int .i64 y_5), (0, .int .i64 x0), (1, .int .i64 x1), (5, .int .i64 y_5)]) S tys tys_ok 4 (by kernel_rfl) ?_
  clear S; intro a S
  obtain ⟨q_13, eq_13, h⟩ := bindS h
  refine seg 3 (fun a_ w_ => w_12 = w_ ∧ St 27 a_ [(21, .bool q_13), (0, .int .i64 x0), (1, .int .i64 x1)]) ?_ ?_
  · by_cases hc : (y_5 == x0) = true
    · rw [if_pos hc] at eq_13; rw [hc] at S
      refine wl_pure (l' := [(21, .bool (decide (x1 ≥ 0))), (20, .bool (decide (x1 ≥ 0))), (19, .int .i64 x1), (18, .bool true), (17, .bool true), (16, .int .i64 x0), (15, .int .i64 y_5), (0, .int .i64 x0), (1, .int .i64 x1), (5, .int .i64 y_5)]) S tys tys_ok 3 (by kernel_rfl) ?_
      clear S; intro a S
      obtain rfl := Option.some.inj eq_13
      exact ⟨rfl, S.sub (by exact ⟨rfl, rfl, rfl, trivial⟩)⟩
    · rw [if_neg hc] at eq_13; rw [show (y_5 == x0) = false from Bool.eq_false_iff.2 hc] at S
      refine wl_pure (l' := [(21, .bool false), (20, undef), (19, undef), (18, .bool false), (17, .bool false), (16, .int .i64 x0), (15, .int .i64 y_5), (0, .int .i64 x0), (1, .int .i64 x1), (5, .int .i64 y_5)]) S tys tys_ok 3 (by kernel_rfl) ?_
      clear S; intro a S
      obtain rfl := Option.some.inj eq_13
      exact ⟨rfl, S.sub (by exact ⟨rfl, rfl, rfl, trivial⟩)⟩
  clear S eq_13; rintro a _ ⟨rfl, S⟩
  refine wl_pure (l' := [(22, .bool q_13), (21, .bool q_13), (0, .int .i64 x0), (1, .int .i64 x1)]) S tys tys_ok 1 (by kernel_rfl) ?_
  clear S; intro a S
  obtain ⟨q_14, eq_14, h⟩ := bindS h
  refine seg 4 (fun a_ w_ => w_12 = w_ ∧ St 27 a_ [(26, .bool q_14)]) ?_ ?_
  · by_cases hc : q_13 = true
    · rw [if_pos hc] at eq_14; rw [hc] at S
      refine wl_pure (l' := [(26, .bool (decide (x1 < x0))), (25, .bool (decide (x1 < x0))), (24, .int .i64 x0), (23, .int .i64 x1), (22, .bool true), (21, .bool true), (0, .int .i64 x0), (1, .int .i64 x1)]) S tys tys_ok 4 (by kernel_rfl) ?_
      clear S; intro a S
      obtain rfl := Option.some.inj eq_14
      exact ⟨rfl, S.sub (by exact ⟨rfl, trivial⟩)⟩
    · rw [if_neg hc] at eq_14; rw [show q_13 = false from Bool.eq_false_iff.2 hc] at S
      refine wl_pure (l' := [(26, .bool false), (25, undef), (24, undef), (23, undef), (22, .bool false), (21, .bool false), (0, .int .i64 x0), (1, .int .i64 x1)]) S tys tys_ok 4 (by kernel_rfl) ?_
      clear S; intro a S
      obtain rfl := Option.some.inj eq_14
      exact ⟨rfl, S.sub (by exact ⟨rfl, trivial⟩)⟩
  clear S eq_14; rintro a _ ⟨rfl, S⟩
  refine wl_pure (l' := [(4, .bool q_14), (26, .bool q_14)]) S tys tys_ok 1 (by kernel_rfl) ?_
  clear S; intro a S
  refine wpList_nil ?_
  refine then_n ?_
  replace S := S.sub (l' := [(4, .bool q_14)]) (by exact ⟨rfl, trivial⟩)
  refine wp_ret ?_
  obtain rfl := Option.some.inj h
  exact b_ret1 S rfl rfl ⟨_, rfl, RepV.mkBool, W.below⟩
theorem cb11 : callB Try.prog 11 = true := by kernel_rfl
def p3_l1 (n : Nat) (x0 : Int) (x1 : Int) (x2 : List (Int)) (t_8 : (Int) × (Int)) (t_18 : (Int) × (Int)) : Nat → (Int) → Option ((Unit) ⊕ ((Bool)))
  | 0, _ => .none
  | m + 1, c_25 => if (decide (c_25 < 2)) then ((idx x2 c_25).bind fun y_34 => (p9 n x0 x1 y_34).bind fun t_37 => (if (c_25 == 0) = true then (if (t_8.1 != t_37) = false then some (!((t_8.2 == 0) == (decide (t_37 > 0)))) else some true).bind fun q_43 => some q_43 else some false).bind fun q_42 => (if q_42 = false then (if (c_25 == 1) = true then (if (t_18.1 != t_37) = false then some (!((t_18.2 == 0) == (decide (t_37 > 0)))) else some true).bind fun q_46 => some q_46 else some false).bind fun q_45 => some q_45 else some true).bind fun q_44 => if q_44 then (some (.inr false)) else (ckI .i64 (c_25 + 1)).bind fun x_47 => p3_l1 n x0 x1 x2 t_8 t_18 m x_47) else some (.inl ())
def p3 (n : Nat) (x0 : Int) (x1 : Int) (x2 : List (Int)) : Option ((Bool)) :=
  (idx x2 0).bind fun y_5 =>
  (p8 n x0 x1 y_5).bind fun t_8 =>
  (idx x2 1).bind fun y_15 =>
  (p8 n x0 x1 y_15).bind fun t_18 =>
  (p3_l1 n x0 x1 x2 t_8 t_18 n 0).bind fun (y_29 : (Unit) ⊕ ((Bool))) =>
  lrK y_29 some fun (s_30 : Unit) =>
  (if (t_8.2 != 0) = false then some (t_18.2 != 0) else some true).bind fun q_49 =>
  if q_49 then ((if (t_8.2 == 0) = false then some (t_8.2 == 1) else some true).bind fun q_50 => (if q_50 = true then (if (t_18.2 == 0) = false then some (t_18.2 == 1) else some true).bind fun q_52 => some q_52 else some false).bind fun q_51 => (if q_51 = true then (p10 n).bind fun t_54 => some t_54 else some false).bind fun q_53 => some q_53) else (if (decide (t_8.1 > 0)) = true then some (decide (t_18.1 > 0)) else some false).bind fun q_60 => (if q_60 = true then (remI .i64 t_8.1 t_18.1).bind fun x_62 => (if (x_62 == 0) = false then (remI .i64 t_18.1 t_8.1).bind fun x_64 => some (x_64 == 0) else some true).bind fun q_63 => some q_63 else some false).bind fun q_61 => (if q_61 = true then (p11 n t_8.1 0).bind fun t_66 => some t_66 else some false).bind fun q_65 => (if q_65 = true then (p10 n).bind fun t_73 => some t_73 else some false).bind fun q_72 => some q_72
set_option maxHeartbeats 4000000 in
set_option maxRecDepth 100000 in
/-- plugboard/plugboardlaw10.PeriodicsPeriod -/
theorem c3 (K : Nat → Prop) (n : Nat) (w : World) (x0 : Int) (G0 : InR .u8 x0) (x1 : Int) (G1 : InR .u8 x1) (x2 : List (Int)) (v2 : Value) (R2 : RepV (.arr 2 (.int .i64)) w K v2 x2) {r : (Bool)} (h : p3 n x0 x1 x2 = some r) :
    Calls Try.prog 3 #[.int .u8 x0, .int .u8 x1, v2] w (Ret1 .bool w (Kx K w.heap.size []) r) := by
  refine enter (args := [.int .u8 x0, .int .u8 x1, v2]) Try.func3 rfl 117 rfl rfl fun a S => ?_
  have W := Wd.start w
  replace R2 := R2.arg
  unfold p3 at h
  replace S : St 117 a [(0, .int .u8 x0), (1, .int .u8 x1), (2, v2)] := S
  refine wp_seq ?_
  refine wp_region_lit ?_
  refine w_go S rfl (op_box S rfl rfl rfl rfl rfl R2 ?_)
  clear S; intro a w_3 b_1 hb_4 B_2 S
  replace R2 := R2.box hb_4
  replace W := W.box hb_4
  refine wl_pure (l' := [(6, .bool false), (5, .pointer (some (⟨b_1, 0, .none⟩ : Addr))), (0, .int .u8 x0), (1, .int .u8 x1), (2, v2)]) S tys tys_ok 1 (by kernel_rfl) ?_
  clear S; intro a S
  refine wpList_nil ?_
  refine then_n ?_
  replace S := S.sub (l' := [(5, .pointer (some (⟨b_1, 0, .none⟩ : Addr))), (0, .int .u8 x0), (1, .int .u8 x1)]) (by exact ⟨rfl, rfl, rfl, trivial⟩)
  refine wp_seq ?_
  refine wp_region_lit ?_
  refine wl_pure (l' := [(15, .int .u8 x1), (14, .int .u8 x0), (5, .pointer (some (⟨b_1, 0, .none⟩ : Addr))), (0, .int .u8 x0), (1, .int .u8 x1)]) S tys tys_ok 2 (by kernel_rfl) ?_
  clear S; intro a S
  obtain ⟨y_5, ey_5, h⟩ := bindS h
  refine w_go S rfl (op_indexAddr_arr S rfl ty22 rfl rfl rfl B_2.at_ rfl ey_5 ?_)
  clear S; intro a S
  refine w_go S rfl (op_load (t := (.int .i64)) (x := y_5) S rfl ty3 rfl rfl rfl (RepAt.ix B_2.at_ ey_5) ?_)
  clear S; intro a v_6 R_7 S
  obtain ⟨rfl, GR_7⟩ := RepV.int R_7
  obtain ⟨t_8, et_8, h⟩ := bindS h
  refine w_go S rfl (op_call (vs := [.int .u8 x0, .int .u8 x1, .int .i64 y_5]) S rfl cb8 rfl rfl rfl (c8 (Kx K w.heap.size [some b_1]) n w_3 x0 G0 x1 G1 y_5 GR_7 et_8) ?_)
  rintro _ w_14 ⟨v_9, v_10, rfl, R_11, R_12, hb_13⟩; refine ⟨_, rfl, ?_⟩
  replace R_11 := RepV.back R_11 W
  replace R_12 := RepV.back R_12 W
  clear S; intro a S
  replace B_2 := B_2.step hb_13
  replace W := W.step hb_13
  obtain ⟨rfl, GR_11⟩ := RepV.int R_11
  obtain ⟨rfl, GR_12⟩ := RepV.int R_12
  refine wl_pure (l' := [(8, .int .i64 t_8.2), (7, .int .i64 t_8.1), (20, .int .i64 t_8.2), (19, .int .i64 t_8.1), (13, .tuple #[.int .i64 t_8.1, .int .i64 t_8.2]), (18, .tuple #[.int .i64 t_8.1, .int .i64 t_8.2]), (17, .int .i64 y_5), (16, .pointer (some ((⟨b_1, 0, .none⟩ : Addr).add ((0 : Int).toNat * GT.sz (.int .i64))))), (15, .int .u8 x1), (14, .int .u8 x0), (5, .pointer (some (⟨b_1, 0, .none⟩ : Addr))), (0, .int .u8 x0), (1, .int .u8 x1)]) S tys tys_ok 5 (by kernel_rfl) ?_
  clear S; intro a S
  refine wpList_nil ?_
  refine then_n ?_
  replace S := S.sub (l' := [(8, .int .i64 t_8.2), (7, .int .i64 t_8.1), (5, .pointer (some (⟨b_1, 0, .none⟩ : Addr))), (0, .int .u8 x0), (1, .int .u8 x1)]) (by exact ⟨rfl, rfl, rfl, rfl, rfl, trivial⟩)
  refine wp_seq ?_
  refine wp_region_lit ?_
  refine wl_pure (l' := [(23, .int .u8 x1), (22, .int .u8 x0), (8, .int .i64 t_8.2), (7, .int .i64 t_8.1), (5, .pointer (some (⟨b_1, 0, .none⟩ : Addr))), (0, .int .u8 x0), (1, .int .u8 x1)]) S tys tys_ok 2 (by kernel_rfl) ?_
  clear S; intro a S
  obtain ⟨y_15, ey_15, h⟩ := bindS h
  refine w_go S rfl (op_indexAddr_arr S rfl ty22 rfl rfl rfl B_2.at_ rfl ey_15 ?_)
  clear S; intro a S
  refine w_go S rfl (op_load (t := (.int .i64)) (x := y_15) S rfl ty3 rfl rfl rfl (RepAt.ix B_2.at_ ey_15) ?_)
  clear S; intro a v_16 R_17 S
  obtain ⟨rfl, GR_17⟩ := RepV.int R_17
  obtain ⟨t_18, et_18, h⟩ := bindS h
  refine w_go S rfl (op_call (vs := [.int .u8 x0, .int .u8 x1, .int .i64 y_15]) S rfl cb8 rfl rfl rfl (c8 (Kx K w.heap.size [some b_1]) n w_14 x0 G0 x1 G1 y_15 GR_17 et_18) ?_)
  rintro _ w_24 ⟨v_19, v_20, rfl, R_21, R_22, hb_23⟩; refine ⟨_, rfl, ?_⟩
  replace R_21 := RepV.back R_21 W
  replace R_22 := RepV.back R_22 W
  clear S; intro a S
  replace B_2 := B_2.step hb_23
  replace W := W.step hb_23
  obtain ⟨rfl, GR_21⟩ := RepV.int R_21
  obtain ⟨rfl, GR_22⟩ := RepV.int R_22
  refine wl_pure (l' := [(10, .int .i64 t_18.2), (9, .int .i64 t_18.1), (28, .int .i64 t_18.2), (27, .int .i64 t_18.1), (21, .tuple #[.int .i64 t_18.1, .int .i64 t_18.2]), (26, .tuple #[.int .i64 t_18.1, .int .i64 t_18.2]), (25, .int .i64 y_15), (24, .pointer (some ((⟨b_1, 0, .none⟩ : Addr).add ((1 : Int).toNat * GT.sz (.int .i64))))), (23, .int .u8 x1), (22, .int .u8 x0), (8, .int .i64 t_8.2), (7, .int .i64 t_8.1), (5, .pointer (some (⟨b_1, 0, .none⟩ : Addr))), (0, .int .u8 x0), (1, .int .u8 x1)]) S tys tys_ok 5 (by kernel_rfl) ?_
  clear S; intro a S
  refine wpList_nil ?_
  refine then_n ?_
  replace S := S.sub (l' := [(10, .int .i64 t_18.2), (9, .int .i64 t_18.1), (8, .int .i64 t_8.2), (7, .int .i64 t_8.1), (5, .pointer (some (⟨b_1, 0, .none⟩ : Addr))), (0, .int .u8 x0), (1, .int .u8 x1)]) (by exact ⟨rfl, rfl, rfl, rfl, rfl, rfl, rfl, trivial⟩)
  refine wp_seq ?_
  refine wp_seq ?_
  refine wp_region_lit ?_
  refine wl_pure (l' := [(11, .int .i64 0), (10, .int .i64 t_18.2), (9, .int .i64 t_18.1), (8, .int .i64 t_8.2), (7, .int .i64 t_8.1), (5, .pointer (some (⟨b_1, 0, .none⟩ : Addr))), (0, .int .u8 x0), (1, .int .u8 x1)]) S tys tys_ok 1 (by kernel_rfl) ?_
  clear S; intro a S
  refine wpList_nil ?_
  refine then_n ?_
  obtain ⟨y_29, ey_29, h⟩ := bindS h
  refine wp_cut_ (fun a_ w_ => ∃ s_30 : Unit, y_29 = .inl s_30 ∧ (St 117 a_ [(7, .int .i64 t_8.1), (8, .int .i64 t_8.2), (9, .int .i64 t_18.1), (10, .int .i64 t_18.2)] ∧ Wd w w_ [some b_1] ∧ Bx (.arr 2 (.int .i64)) 22 w_ (Kx K w.heap.size [some b_1]) b_1 x2)) ?_ ?_
  · refine wp_block ?_
    refine wp_loop_n (fun m_ a_ w_ => ∃ (c_25 : Int) , St 117 a_ [(11, .int .i64 c_25), (10, .int .i64 t_18.2), (9, .int .i64 t_18.1), (8, .int .i64 t_8.2), (7, .int .i64 t_8.1), (5, .pointer (some (⟨b_1, 0, .none⟩ : Addr))), (0, .int .u8 x0), (1, .int .u8 x1)] ∧ Wd w w_ [some b_1] ∧ InR .i64 c_25 ∧ Bx (.arr 2 (.int .i64)) 22 w_ (Kx K w.heap.size [some b_1]) b_1 x2 ∧ p3_l1 n x0 x1 x2 t_8 t_18 m_ c_25 = some y_29) n ?_ ?_
    · skip
      exact ⟨0, ⟨S.sub (by exact ⟨rfl, rfl, rfl, rfl, rfl, rfl, rfl, rfl, trivial⟩), W, (by decide), B_2, ey_29⟩⟩
    · clear S W; rintro m_31 a w_33 ⟨c_25, S, W, G_26, B_2, hl_32⟩
      cases m_31 with
      | zero => exact absurd hl_32 (by simp [p3_l1])
      | succ m_31 =>
        refine ⟨m_31, rfl, ?_⟩
        rw [p3_l1] at hl_32
        refine wp_seq ?_
        refine wp_seq ?_
        refine wp_region_lit ?_
        refine wl_pure (l' := [(30, .bool (decide (c_25 < 2))), (29, .int .i64 c_25), (11, .int .i64 c_25), (10, .int .i64 t_18.2), (9, .int .i64 t_18.1), (8, .int .i64 t_8.2), (7, .int .i64 t_8.1), (5, .pointer (some (⟨b_1, 0, .none⟩ : Addr))), (0, .int .u8 x0), (1, .int .u8 x1)]) S tys tys_ok 2 (by kernel_rfl) ?_
        clear S; intro a S
        refine wpList_nil ?_
        refine then_n ?_
        replace S := S.sub (l' := [(30, .bool (decide (c_25 < 2))), (11, .int .i64 c_25), (10, .int .i64 t_18.2), (9, .int .i64 t_18.1), (8, .int .i64 t_8.2), (7, .int .i64 t_8.1), (5, .pointer (some (⟨b_1, 0, .none⟩ : Addr))), (0, .int .u8 x0), (1, .int .u8 x1)]) (by exact ⟨rfl, rfl, rfl, rfl, rfl, rfl, rfl, rfl, rfl, trivial⟩)
        refine wp_cond_split (S.eval (show ev _ _ = some (.bool (decide (c_25 < 2))) from rfl)) ?_ ?_
        · intro hc
          rw [if_pos hc] at hl_32
          refine wp_skip ?_
          refine then_n ?_
          replace S := S.sub (l' := [(11, .int .i64 c_25), (10, .int .i64 t_18.2), (9, .int .i64 t_18.1), (8, .int .i64 t_8.2), (7, .int .i64 t_8.1), (5, .pointer (some (⟨b_1, 0, .none⟩ : Addr))), (0, .int .u8 x0), (1, .int .u8 x1)]) (by exact ⟨rfl, rfl, rfl, rfl, rfl, rfl, rfl, rfl, trivial⟩)
          refine wp_seq ?_
          refine wp_block ?_
          refine wp_seq ?_
          refine wp_region_lit ?_
          refine wl_pure (l' := [(35, .int .i64 c_25), (34, .int .u8 x1), (33, .int .u8 x0), (11, .int .i64 c_25), (10, .int .i64 t_18.2), (9, .int .i64 t_18.1), (8, .int .i64 t_8.2), (7, .int .i64 t_8.1), (5, .pointer (some (⟨b_1, 0, .none⟩ : Addr))), (0, .int .u8 x0), (1, .int .u8 x1)]) S tys tys_ok 3 (by kernel_rfl) ?_
          clear S; intro a S
          obtain ⟨y_34, ey_34, hl_32⟩ := bindS hl_32
          refine w_go S rfl (op_indexAddr_arr S rfl ty22 rfl rfl rfl B_2.at_ rfl ey_34 ?_)
          clear S; intro a S
          refine w_go S rfl (op_load (t := (.int .i64)) (x := y_34) S rfl ty3 rfl rfl rfl (RepAt.ix B_2.at_ ey_34) ?_)
          clear S; intro a v_35 R_36 S
          obtain ⟨rfl, GR_36⟩ := RepV.int R_36
          obtain ⟨t_37, et_37, hl_32⟩ := bindS hl_32
          refine w_go S rfl (op_call (vs := [.int .u8 x0, .int .u8 x1, .int .i64 y_34]) S rfl cb9 rfl rfl rfl (c9 (Kx K w.heap.size [some b_1]) n w_33 x0 G0 x1 G1 y_34 GR_36 et_37) ?_)
          rintro _ w_41 ⟨v_38, rfl, R_39, hb_40⟩; refine ⟨_, rfl, ?_⟩
          replace R_39 := RepV.back R_39 W
          clear S; intro a S
          replace B_2 := B_2.step hb_40
          replace W := W.step hb_40
          obtain ⟨rfl, GR_39⟩ := RepV.int R_39
          refine wl_pure (l' := [(12, .int .i64 t_37), (38, .int .i64 t_37), (37, .int .i64 y_34), (36, .pointer (some ((⟨b_1, 0, .none⟩ : Addr).add (c_25.toNat * GT.sz (.int .i64))))), (35, .int .i64 c_25), (34, .int .u8 x1), (33, .int .u8 x0), (11, .int .i64 c_25), (10, .int .i64 t_18.2), (9, .int .i64 t_18.1), (8, .int .i64 t_8.2), (7, .int .i64 t_8.1), (5, .pointer (some (⟨b_1, 0, .none⟩ : Addr))), (0, .int .u8 x0), (1, .int .u8 x1)]) S tys tys_ok 1 (by kernel_rfl) ?_
          clear S; intro a S
          refine wpList_nil ?_
          refine then_n ?_
          replace S := S.sub (l' := [(12, .int .i64 t_37), (11, .int .i64 c_25), (10, .int .i64 t_18.2), (9, .int .i64 t_18.1), (8, .int .i64 t_8.2), (7, .int .i64 t_8.1), (5, .pointer (some (⟨b_1, 0, .none⟩ : Addr))), (0, .int .u8 x0), (1, .int .u8 x1)]) (by exact ⟨rfl, rfl, rfl, rfl, rfl, rfl, rfl, rfl, rfl, trivial⟩)
          refine wp_seq ?_
          refine wp_region_lit ?_
          refine wl_pure (l' := [(41, .bool (c_25 == 0)), (40, .bool (c_25 == 0)), (39, .int .i64 c_25), (12, .int .i64 t_37), (11, .int .i64 c_25), (10, .int .i64 t_18.2), (9, .int .i64 t_18.1), (8, .int .i64 t_8.2), (7, .int .i64 t_8.1), (5, .pointer (some (⟨b_1, 0, .none⟩ : Addr))), (0, .int .u8 x0), (1, .int .u8 x1)]) S tys tys_ok 3 (by kernel_rfl) ?_
          clear S; intro a S
          obtain ⟨q_42, eq_42, hl_32⟩ := bindS hl_32
          refine seg 11 (fun a_ w_ => w_41 = w_ ∧ St 117 a_ [(52, .bool q_42), (12, .int .i64 t_37), (11, .int .i64 c_25), (10, .int .i64 t_18.2), (9, .int .i64 t_18.1), (8, .int .i64 t_8.2), (7, .int .i64 t_8.1), (5, .pointer (some (⟨b_1, 0, .none⟩ : Addr))), (0, .int .u8 x0), (1, .int .u8 x1)]) ?_ ?_
          · by_cases hc : (c_25 == 0) = true
            · rw [if_pos hc] at eq_42; rw [hc] at S
              refine wl_pure (l' := [(45, .bool (t_8.1 != t_37)), (44, .bool (t_8.1 != t_37)), (43, .int .i64 t_37), (42, .int .i64 t_8.1), (41, .bool true), (40, .bool true), (39, .int .i64 c_25), (12, .int .i64 t_37), (11, .int .i64 c_25), (10, .int .i64 t_18.2), (9, .int .i64 t_18.1), (8, .int .i64 t_8.2), (7, .int .i64 t_8.1), (5, .pointer (some (⟨b_1, 0, .none⟩ : Addr))), (0, .int .u8 x0), (1, .int .u8 x1)]) S tys tys_ok 4 (by kernel_rfl) ?_
              clear S; intro a S
              obtain ⟨q_43, eq_43, eq_42⟩ := bindS eq_42
              refine seg 6 (fun a_ w_ => w_41 = w_ ∧ St 117 a_ [(51, .bool q_43), (45, .bool (t_8.1 != t_37)), (44, .bool (t_8.1 != t_37)), (43, .int .i64 t_37), (42, .int .i64 t_8.1), (41, .bool true), (12, .int .i64 t_37), (11, .int .i64 c_25), (10, .int .i64 t_18.2), (9, .int .i64 t_18.1), (8, .int .i64 t_8.2), (7, .int .i64 t_8.1), (5, .pointer (some (⟨b_1, 0, .none⟩ : Addr))), (0, .int .u8 x0), (1, .int .u8 x1)]) ?_ ?_
              · by_cases hc : (t_8.1 != t_37) = false
                · rw [if_pos hc] at eq_43; rw [hc] at S
                  refine wl_pure (l' := [(51, .bool (!((t_8.2 == 0) == (decide (t_37 > 0))))), (50, .bool (!((t_8.2 == 0) == (decide (t_37 > 0))))), (49, .bool (decide (t_37 > 0))), (48, .int .i64 t_37), (47, .bool (t_8.2 == 0)), (46, .int .i64 t_8.2), (45, .bool false), (44, .bool false), (43, .int .i64 t_37), (42, .int .i64 t_8.1), (41, .bool true), (40, .bool true), (39, .int .i64 c_25), (12, .int .i64 t_37), (11, .int .i64 c_25), (10, .int .i64 t_18.2), (9, .int .i64 t_18.1), (8, .int .i64 t_8.2), (7, .int .i64 t_8.1), (5, .pointer (some (⟨b_1, 0, .none⟩ : Addr))), (0, .int .u8 x0), (1, .int .u8 x1)]) S tys tys_ok 6 (by kernel_rfl) ?_
                  clear S; intro a S
                  obtain rfl := Option.some.inj eq_43
                  exact ⟨rfl, S.sub (by exact ⟨rfl, (by rw [show (t_8.1 != t_37) = false from hc]; rfl), (by rw [show (t_8.1 != t_37) = false from hc]; rfl), rfl, rfl, rfl, rfl, rfl, rfl, rfl, rfl, rfl, rfl, rfl, rfl, trivial⟩)⟩
                · rw [if_neg hc] at eq_43; rw [show (t_8.1 != t_37) = true from (by simpa using hc)] at S
                  refine wl_pure (l' := [(51, .bool true), (50, undef), (49, undef), (48, undef), (47, undef), (46, undef), (45, .bool true), (44, .bool true), (43, .int .i64 t_37), (42, .int .i64 t_8.1), (41, .bool true), (40, .bool true), (39, .int .i64 c_25), (12, .int .i64 t_37), (11, .int .i64 c_25), (10, .int .i64 t_18.2), (9, .int .i64 t_18.1), (8, .int .i64 t_8.2), (7, .int .i64 t_8.1), (5, .pointer (some (⟨b_1, 0, .none⟩ : Addr))), (0, .int .u8 x0), (1, .int .u8 x1)]) S tys tys_ok 6 (by kernel_rfl) ?_
                  clear S; intro a S
                  obtain rfl := Option.some.inj eq_43
                  exact ⟨rfl, S.sub (by exact ⟨rfl, (by rw [show (t_8.1 != t_37) = true from (by simpa using hc)]; rfl), (by rw [show (t_8.1 != t_37) = true from (by simpa using hc)]; rfl), rfl, rfl, rfl, rfl, rfl, rfl, rfl, rfl, rfl, rfl, rfl, rfl, trivial⟩)⟩
              clear S eq_43; rintro a _ ⟨rfl, S⟩
              refine wl_pure (l' := [(52, .bool q_43), (51, .bool q_43), (45, .bool (t_8.1 != t_37)), (44, .bool (t_8.1 != t_37)), (43, .int .i64 t_37), (42, .int .i64 t_8.1), (41, .bool true), (12, .int .i64 t_37), (11, .int .i64 c_25), (10, .int .i64 t_18.2), (9, .int .i64 t_18.1), (8, .int .i64 t_8.2), (7, .int .i64 t_8.1), (5, .pointer (some (⟨b_1, 0, .none⟩ : Addr))), (0, .int .u8 x0), (1, .int .u8 x1)]) S tys tys_ok 1 (by kernel_rfl) ?_
              clear S; intro a S
              obtain rfl := Option.some.inj eq_42
              exact ⟨rfl, S.sub (by exact ⟨rfl, rfl, rfl, rfl, rfl, rfl, rfl, rfl, rfl, rfl, trivial⟩)⟩
            · rw [if_neg hc] at eq_42; rw [show (c_25 == 0) = false from Bool.eq_false_iff.2 hc] at S
              refine wl_pure (l' := [(52, .bool false), (51, undef), (50, undef), (49, undef), (48, undef), (47, undef), (46, undef), (45, undef), (44, undef), (43, undef), (42, undef), (41, .bool false), (40, .bool false), (39, .int .i64 c_25), (12, .int .i64 t_37), (11, .int .i64 c_25), (10, .int .i64 t_18.2), (9, .int .i64 t_18.1), (8, .int .i64 t_8.2), (7, .int .i64 t_8.1), (5, .pointer (some (⟨b_1, 0, .none⟩ : Addr))), (0, .int .u8 x0), (1, .int .u8 x1)]) S tys tys_ok 11 (by kernel_rfl) ?_
              clear S; intro a S
              obtain rfl := Option.some.inj eq_42
              exact ⟨rfl, S.sub (by exact ⟨rfl, rfl, rfl, rfl, rfl, rfl, rfl, rfl, rfl, rfl, trivial⟩)⟩
          clear S eq_42; rintro a _ ⟨rfl, S⟩
          refine wl_pure (l' := [(53, .bool q_42), (52, .bool q_42), (12, .int .i64 t_37), (11, .int .i64 c_25), (10, .int .i64 t_18.2), (9, .int .i64 t_18.1), (8, .int .i64 t_8.2), (7, .int .i64 t_8.1), (5, .pointer (some (⟨b_1, 0, .none⟩ : Addr))), (0, .int .u8 x0), (1, .int .u8 x1)]) S tys tys_ok 1 (by kernel_rfl) ?_
          clear S; intro a S
          obtain ⟨q_44, eq_44, hl_32⟩ := bindS hl_32
          refine seg 15 (fun a_ w_ => w_41 = w_ ∧ St 117 a_ [(68, .bool q_44), (11, .int .i64 c_25), (10, .int .i64 t_18.2), (9, .int .i64 t_18.1), (8, .int .i64 t_8.2), (7, .int .i64 t_8.1), (5, .pointer (some (⟨b_1, 0, .none⟩ : Addr))), (0, .int .u8 x0), (1, .int .u8 x1)]) ?_ ?_
          · by_cases hc : q_42 = false
            · rw [if_pos hc] at eq_44; rw [hc] at S
              refine wl_pure (l' := [(56, .bool (c_25 == 1)), (55, .bool (c_25 == 1)), (54, .int .i64 c_25), (53, .bool false), (52, .bool false), (12, .int .i64 t_37), (11, .int .i64 c_25), (10, .int .i64 t_18.2), (9, .int .i64 t_18.1), (8, .int .i64 t_8.2), (7, .int .i64 t_8.1), (5, .pointer (some (⟨b_1, 0, .none⟩ : Addr))), (0, .int .u8 x0), (1, .int .u8 x1)]) S tys tys_ok 3 (by kernel_rfl) ?_
              clear S; intro a S
              obtain ⟨q_45, eq_45, eq_44⟩ := bindS eq_44
              refine seg 11 (fun a_ w_ => w_41 = w_ ∧ St 117 a_ [(67, .bool q_45), (56, .bool (c_25 == 1)), (55, .bool (c_25 == 1)), (54, .int .i64 c_25), (53, .bool false), (11, .int .i64 c_25), (10, .int .i64 t_18.2), (9, .int .i64 t_18.1), (8, .int .i64 t_8.2), (7, .int .i64 t_8.1), (5, .pointer (some (⟨b_1, 0, .none⟩ : Addr))), (0, .int .u8 x0), (1, .int .u8 x1)]) ?_ ?_
              · by_cases hc : (c_25 == 1) = true
                · rw [if_pos hc] at eq_45; rw [hc] at S
                  refine wl_pure (l' := [(60, .bool (t_18.1 != t_37)), (59, .bool (t_18.1 != t_37)), (58, .int .i64 t_37), (57, .int .i64 t_18.1), (56, .bool true), (55, .bool true), (54, .int .i64 c_25), (53, .bool false), (52, .bool false), (12, .int .i64 t_37), (11, .int .i64 c_25), (10, .int .i64 t_18.2), (9, .int .i64 t_18.1), (8, .int .i64 t_8.2), (7, .int .i64 t_8.1), (5, .pointer (some (⟨b_1, 0, .none⟩ : Addr))), (0, .int .u8 x0), (1, .int .u8 x1)]) S tys tys_ok 4 (by kernel_rfl) ?_
                  clear S; intro a S
                  obtain ⟨q_46, eq_46, eq_45⟩ := bindS eq_45
                  refine seg 6 (fun a_ w_ => w_41 = w_ ∧ St 117 a_ [(66, .bool q_46), (60, .bool (t_18.1 != t_37)), (59, .bool (t_18.1 != t_37)), (58, .int .i64 t_37), (57, .int .i64 t_18.1), (56, .bool true), (55, .bool true), (54, .int .i64 c_25), (53, .bool false), (11, .int .i64 c_25), (10, .int .i64 t_18.2), (9, .int .i64 t_18.1), (8, .int .i64 t_8.2), (7, .int .i64 t_8.1), (5, .pointer (some (⟨b_1, 0, .none⟩ : Addr))), (0, .int .u8 x0), (1, .int .u8 x1)]) ?_ ?_
                  · by_cases hc : (t_18.1 != t_37) = false
                    · rw [if_pos hc] at eq_46; rw [hc] at S
                      refine wl_pure (l' := [(66, .bool (!((t_18.2 == 0) == (decide (t_37 > 0))))), (65, .bool (!((t_18.2 == 0) == (decide (t_37 > 0))))), (64, .bool (decide (t_37 > 0))), (63, .int .i64 t_37), (62, .bool (t_18.2 == 0)), (61, .int .i64 t_18.2), (60, .bool false), (59, .bool false), (58, .int .i64 t_37), (57, .int .i64 t_18.1), (56, .bool true), (55, .bool true), (54, .int .i64 c_25), (53, .bool false), (52, .bool false), (12, .int .i64 t_37), (11, .int .i64 c_25), (10, .int .i64 t_18.2), (9, .int .i64 t_18.1), (8, .int .i64 t_8.2), (7, .int .i64 t_8.1), (5, .pointer (some (⟨b_1, 0, .none⟩ : Addr))), (0, .int .u8 x0), (1, .int .u8 x1)]) S tys tys_ok 6 (by kernel_rfl) ?_
                      clear S; intro a S
                      obtain rfl := Option.some.inj eq_46
                      exact ⟨rfl, S.sub (by exact ⟨rfl, (by rw [show (t_18.1 != t_37) = false from hc]; rfl), (by rw [show (t_18.1 != t_37) = false from hc]; rfl), rfl, rfl, rfl, rfl, rfl, rfl, rfl, rfl, rfl, rfl, rfl, rfl, rfl, rfl, trivial⟩)⟩
                    · rw [if_neg hc] at eq_46; rw [show (t_18.1 != t_37) = true from (by simpa using hc)] at S
                      refine wl_pure (l' := [(66, .bool true), (65, undef), (64, undef), (63, undef), (62, undef), (61, undef), (60, .bool true), (59, .bool true), (58, .int .i64 t_37), (57, .int .i64 t_18.1), (56, .bool true), (55, .bool true), (54, .int .i64 c_25), (53, .bool false), (52, .bool false), (12, .int .i64 t_37), (11, .int .i64 c_25), (10, .int .i64 t_18.2), (9, .int .i64 t_18.1), (8, .int .i64 t_8.2), (7, .int .i64 t_8.1), (5, .pointer (some (⟨b_1, 0, .none⟩ : Addr))), (0, .int .u8 x0), (1, .int .u8 x1)]) S tys tys_ok 6 (by kernel_rfl) ?_
                      clear S; intro a S
                      obtain rfl := Option.some.inj eq_46
                      exact ⟨rfl, S.sub (by exact ⟨rfl, (by rw [show (t_18.1 != t_37) = true from (by simpa using hc)]; rfl), (by rw [show (t_18.1 != t_37) = true from (by simpa using hc)]; rfl), rfl, rfl, rfl, rfl, rfl, rfl, rfl, rfl, rfl, rfl, rfl, rfl, rfl, rfl, trivial⟩)⟩
                  clear S eq_46; rintro a _ ⟨rfl, S⟩
                  refine wl_pure (l' := [(67, .bool q_46), (66, .bool q_46), (60, .bool (t_18.1 != t_37)), (59, .bool (t_18.1 != t_37)), (58, .int .i64 t_37), (57, .int .i64 t_18.1), (56, .bool true), (55, .bool true), (54, .int .i64 c_25), (53, .bool false), (11, .int .i64 c_25), (10, .int .i64 t_18.2), (9, .int .i64 t_18.1), (8, .int .i64 t_8.2), (7, .int .i64 t_8.1), (5, .pointer (some (⟨b_1, 0, .none⟩ : Addr))), (0, .int .u8 x0), (1, .int .u8 x1)]) S tys tys_ok 1 (by kernel_rfl) ?_
                  clear S; intro a S
                  obtain rfl := Option.some.inj eq_45
                  exact ⟨rfl, S.sub (by exact ⟨rfl, (by rw [show (c_25 == 1) = true from hc]; rfl), (by rw [show (c_25 == 1) = true from hc]; rfl), rfl, rfl, rfl, rfl, rfl, rfl, rfl, rfl, rfl, rfl, trivial⟩)⟩
                · rw [if_neg hc] at eq_45; rw [show (c_25 == 1) = false from Bool.eq_false_iff.2 hc] at S
                  refine wl_pure (l' := [(67, .bool false), (66, undef), (65, undef), (64, undef), (63, undef), (62, undef), (61, undef), (60, undef), (59, undef), (58, undef), (57, undef), (56, .bool false), (55, .bool false), (54, .int .i64 c_25), (53, .bool false), (52, .bool false), (12, .int .i64 t_37), (11, .int .i64 c_25), (10, .int .i64 t_18.2), (9, .int .i64 t_18.1), (8, .int .i64 t_8.2), (7, .int .i64 t_8.1), (5, .pointer (some (⟨b_1, 0, .none⟩ : Addr))), (0, .int .u8 x0), (1, .int .u8 x1)]) S tys tys_ok 11 (by kernel_rfl) ?_
                  clear S; intro a S
                  obtain rfl := Option.some.inj eq_45
                  exact ⟨rfl, S.sub (by exact ⟨rfl, (by rw [show (c_25 == 1) = false from Bool.eq_false_iff.2 hc]; rfl), (by rw [show (c_25 == 1) = false from Bool.eq_false_iff.2 hc]; rfl), rfl, rfl, rfl, rfl, rfl, rfl, rfl, rfl, rfl, rfl, trivial⟩)⟩
              clear S eq_45; rintro a _ ⟨rfl, S⟩
              refine wl_pure (l' := [(68, .bool q_45), (67, .bool q_45), (56, .bool (c_25 == 1)), (55, .bool (c_25 == 1)), (54, .int .i64 c_25), (53, .bool false), (11, .int .i64 c_25), (10, .int .i64 t_18.2), (9, .int .i64 t_18.1), (8, .int .i64 t_8.2), (7, .int .i64 t_8.1), (5, .pointer (some (⟨b_1, 0, .none⟩ : Addr))), (0, .int .u8 x0), (1, .int .u8 x1)]) S tys tys_ok 1 (by kernel_rfl) ?_
              clear S; intro a S
              obtain rfl := Option.some.inj eq_44
              exact ⟨rfl, S.sub (by exact ⟨rfl, rfl, rfl, rfl, rfl, rfl, rfl, rfl, rfl, trivial⟩)⟩
            · rw [if_neg hc] at eq_44; rw [show q_42 = true from (by simpa using hc)] at S
              refine wl_pure (l' := [(68, .bool true), (67, undef), (66, undef), (65, undef), (64, undef), (63, undef), (62, undef), (61, undef), (60, undef), (59, undef), (58, undef), (57, undef), (56, undef), (55, undef), (54, undef), (53, .bool true), (52, .bool true), (12, .int .i64 t_37), (11, .int .i64 c_25), (10, .int .i64 t_18.2), (9, .int .i64 t_18.1), (8, .int .i64 t_8.2), (7, .int .i64 t_8.1), (5, .pointer (some (⟨b_1, 0, .none⟩ : Addr))), (0, .int .u8 x0), (1, .int .u8 x1)]) S tys tys_ok 15 (by kernel_rfl) ?_
              clear S; intro a S
              obtain rfl := Option.some.inj eq_44
              exact ⟨rfl, S.sub (by exact ⟨rfl, rfl, rfl, rfl, rfl, rfl, rfl, rfl, rfl, trivial⟩)⟩
          clear S eq_44; rintro a _ ⟨rfl, S⟩
          refine wpList_nil ?_
          refine then_n ?_
          refine wp_cond_split (S.eval (show ev _ _ = some (.bool q_44) from rfl)) ?_ ?_
          · intro hc
            rw [if_pos hc] at hl_32
            refine wp_seq ?_
            refine wp_region_lit ?_
            refine wl_pure (l' := [(6, .bool false), (68, .bool q_44), (11, .int .i64 c_25), (10, .int .i64 t_18.2), (9, .int .i64 t_18.1), (8, .int .i64 t_8.2), (7, .int .i64 t_8.1), (5, .pointer (some (⟨b_1, 0, .none⟩ : Addr))), (0, .int .u8 x0), (1, .int .u8 x1)]) S tys tys_ok 1 (by kernel_rfl) ?_
            clear S; intro a S
            refine wpList_nil ?_
            refine then_n ?_
            replace S := S.sub (l' := [(6, .bool false)]) (by exact ⟨rfl, trivial⟩)
            refine wp_ret ?_
            refine blk_r ?_
            refine then_r ?_
            refine then_r ?_
            refine blk_r ?_
            refine then_r ?_
            refine then_r ?_
            obtain rfl := Option.some.inj hl_32
            obtain rfl := lr_inr h
            exact b_ret1 S rfl rfl ⟨_, rfl, RepV.mkBool, W.below⟩
          · intro hc
            rw [if_neg (Bool.eq_false_iff.1 hc)] at hl_32
            refine wp_skip ?_
            refine blk_n ?_
            refine then_n ?_
            replace S := S.sub (l' := [(11, .int .i64 c_25), (10, .int .i64 t_18.2), (9, .int .i64 t_18.1), (8, .int .i64 t_8.2), (7, .int .i64 t_8.1), (5, .pointer (some (⟨b_1, 0, .none⟩ : Addr))), (0, .int .u8 x0), (1, .int .u8 x1)]) (by exact ⟨rfl, rfl, rfl, rfl, rfl, rfl, rfl, rfl, trivial⟩)
            refine wp_region_lit ?_
            refine wl_pure (l' := [(31, .int .i64 c_25), (11, .int .i64 c_25), (10, .int .i64 t_18.2), (9, .int .i64 t_18.1), (8, .int .i64 t_8.2), (7, .int .i64 t_8.1), (5, .pointer (some (⟨b_1, 0, .none⟩ : Addr))), (0, .int .u8 x0), (1, .int .u8 x1)]) S tys tys_ok 1 (by kernel_rfl) ?_
            clear S; intro a S
            obtain ⟨x_47, ex_47, hl_32⟩ := bindS hl_32
            refine w_go S rfl (op_arith S .i64 (c_25 + 1) rfl (.inl rfl) rfl rfl rfl rfl ex_47 ?_)
            clear S; intro a S
            refine wl_pure (l' := [(11, .int .i64 x_47), (32, .int .i64 x_47), (31, .int .i64 c_25), (11, .int .i64 c_25), (10, .int .i64 t_18.2), (9, .int .i64 t_18.1), (8, .int .i64 t_8.2), (7, .int .i64 t_8.1), (5, .pointer (some (⟨b_1, 0, .none⟩ : Addr))), (0, .int .u8 x0), (1, .int .u8 x1)]) S tys tys_ok 1 (by kernel_rfl) ?_
            clear S; intro a S
            refine wpList_nil ?_
            refine then_n ?_
            exact ⟨x_47, ⟨S.sub (by exact ⟨rfl, rfl, rfl, rfl, rfl, rfl, rfl, rfl, trivial⟩), W, (ckI_some ex_47).2.1, B_2, hl_32⟩⟩
        · intro hc
          rw [if_neg (Bool.eq_false_iff.1 hc)] at hl_32
          refine wp_exit ?_
          refine then_x ?_
          refine then_x ?_
          refine blk_hit ?_
          refine then_n ?_
          obtain rfl := Option.some.inj hl_32
          exact ⟨_, rfl, ⟨S.sub (by exact ⟨rfl, rfl, rfl, rfl, trivial⟩), W, B_2⟩⟩
  clear S W; rintro a w_48 ⟨s_30, rfl, S, W, B_2⟩
  replace h := lr_inl h; try dsimp only at h
  refine then_n ?_
  refine wp_seq ?_
  refine wp_seq ?_
  refine wp_region_lit ?_
  refine wl_pure (l' := [(71, .bool (t_8.2 != 0)), (70, .bool (t_8.2 != 0)), (69, .int .i64 t_8.2), (7, .int .i64 t_8.1), (8, .int .i64 t_8.2), (9, .int .i64 t_18.1), (10, .int .i64 t_18.2)]) S tys tys_ok 3 (by kernel_rfl) ?_
  clear S; intro a S
  obtain ⟨q_49, eq_49, h⟩ := bindS h
  refine seg 3 (fun a_ w_ => w_48 = w_ ∧ St 117 a_ [(74, .bool q_49), (7, .int .i64 t_8.1), (8, .int .i64 t_8.2), (9, .int .i64 t_18.1), (10, .int .i64 t_18.2)]) ?_ ?_
  · by_cases hc : (t_8.2 != 0) = false
    · rw [if_pos hc] at eq_49; rw [hc] at S
      refine wl_pure (l' := [(74, .bool (t_18.2 != 0)), (73, .bool (t_18.2 != 0)), (72, .int .i64 t_18.2), (71, .bool false), (70, .bool false), (69, .int .i64 t_8.2), (7, .int .i64 t_8.1), (8, .int .i64 t_8.2), (9, .int .i64 t_18.1), (10, .int .i64 t_18.2)]) S tys tys_ok 3 (by kernel_rfl) ?_
      clear S; intro a S
      obtain rfl := Option.some.inj eq_49
      exact ⟨rfl, S.sub (by exact ⟨rfl, rfl, rfl, rfl, rfl, trivial⟩)⟩
    · rw [if_neg hc] at eq_49; rw [show (t_8.2 != 0) = true from (by simpa using hc)] at S
      refine wl_pure (l' := [(74, .bool true), (73, undef), (72, undef), (71, .bool true), (70, .bool true), (69, .int .i64 t_8.2), (7, .int .i64 t_8.1), (8, .int .i64 t_8.2), (9, .int .i64 t_18.1), (10, .int .i64 t_18.2)]) S tys tys_ok 3 (by kernel_rfl) ?_
      clear S; intro a S
      obtain rfl := Option.some.inj eq_49
      exact ⟨rfl, S.sub (by exact ⟨rfl, rfl, rfl, rfl, rfl, trivial⟩)⟩
  clear S eq_49; rintro a _ ⟨rfl, S⟩
  refine wpList_nil ?_
  refine then_n ?_
  refine wp_cond_split (S.eval (show ev _ _ = some (.bool q_49) from rfl)) ?_ ?_
  · intro hc
    rw [if_pos hc] at h
    refine wp_seq ?_
    refine wp_region_lit ?_
    refine wl_pure (l' := [(77, .bool (t_8.2 == 0)), (76, .bool (t_8.2 == 0)), (75, .int .i64 t_8.2), (74, .bool q_49), (7, .int .i64 t_8.1), (8, .int .i64 t_8.2), (9, .int .i64 t_18.1), (10, .int .i64 t_18.2)]) S tys tys_ok 3 (by kernel_rfl) ?_
    clear S; intro a S
    obtain ⟨q_50, eq_50, h⟩ := bindS h
    refine seg 3 (fun a_ w_ => w_48 = w_ ∧ St 117 a_ [(80, .bool q_50), (10, .int .i64 t_18.2)]) ?_ ?_
    · by_cases hc : (t_8.2 == 0) = false
      · rw [if_pos hc] at eq_50; rw [hc] at S
        refine wl_pure (l' := [(80, .bool (t_8.2 == 1)), (79, .bool (t_8.2 == 1)), (78, .int .i64 t_8.2), (77, .bool false), (76, .bool false), (75, .int .i64 t_8.2), (74, .bool q_49), (7, .int .i64 t_8.1), (8, .int .i64 t_8.2), (9, .int .i64 t_18.1), (10, .int .i64 t_18.2)]) S tys tys_ok 3 (by kernel_rfl) ?_
        clear S; intro a S
        obtain rfl := Option.some.inj eq_50
        exact ⟨rfl, S.sub (by exact ⟨rfl, rfl, trivial⟩)⟩
      · rw [if_neg hc] at eq_50; rw [show (t_8.2 == 0) = true from (by simpa using hc)] at S
        refine wl_pure (l' := [(80, .bool true), (79, undef), (78, undef), (77, .bool true), (76, .bool true), (75, .int .i64 t_8.2), (74, .bool q_49), (7, .int .i64 t_8.1), (8, .int .i64 t_8.2), (9, .int .i64 t_18.1), (10, .int .i64 t_18.2)]) S tys tys_ok 3 (by kernel_rfl) ?_
        clear S; intro a S
        obtain rfl := Option.some.inj eq_50
        exact ⟨rfl, S.sub (by exact ⟨rfl, rfl, trivial⟩)⟩
    clear S eq_50; rintro a _ ⟨rfl, S⟩
    refine wl_pure (l' := [(81, .bool q_50), (80, .bool q_50), (10, .int .i64 t_18.2)]) S tys tys_ok 1 (by kernel_rfl) ?_
    clear S; intro a S
    obtain ⟨q_51, eq_51, h⟩ := bindS h
    refine seg 7 (fun a_ w_ => w_48 = w_ ∧ St 117 a_ [(88, .bool q_51)]) ?_ ?_
    · by_cases hc : q_50 = true
      · rw [if_pos hc] at eq_51; rw [hc] at S
        refine wl_pure (l' := [(84, .bool (t_18.2 == 0)), (83, .bool (t_18.2 == 0)), (82, .int .i64 t_18.2), (81, .bool true), (80, .bool true), (10, .int .i64 t_18.2)]) S tys tys_ok 3 (by kernel_rfl) ?_
        clear S; intro a S
        obtain ⟨q_52, eq_52, eq_51⟩ := bindS eq_51
        refine seg 3 (fun a_ w_ => w_48 = w_ ∧ St 117 a_ [(87, .bool q_52), (81, .bool true)]) ?_ ?_
        · by_cases hc : (t_18.2 == 0) = false
          · rw [if_pos hc] at eq_52; rw [hc] at S
            refine wl_pure (l' := [(87, .bool (t_18.2 == 1)), (86, .bool (t_18.2 == 1)), (85, .int .i64 t_18.2), (84, .bool false), (83, .bool false), (82, .int .i64 t_18.2), (81, .bool true), (80, .bool true), (10, .int .i64 t_18.2)]) S tys tys_ok 3 (by kernel_rfl) ?_
            clear S; intro a S
            obtain rfl := Option.some.inj eq_52
            exact ⟨rfl, S.sub (by exact ⟨rfl, rfl, trivial⟩)⟩
          · rw [if_neg hc] at eq_52; rw [show (t_18.2 == 0) = true from (by simpa using hc)] at S
            refine wl_pure (l' := [(87, .bool true), (86, undef), (85, undef), (84, .bool true), (83, .bool true), (82, .int .i64 t_18.2), (81, .bool true), (80, .bool true), (10, .int .i64 t_18.2)]) S tys tys_ok 3 (by kernel_rfl) ?_
            clear S; intro a S
            obtain rfl := Option.some.inj eq_52
            exact ⟨rfl, S.sub (by exact ⟨rfl, rfl, trivial⟩)⟩
        clear S eq_52; rintro a _ ⟨rfl, S⟩
        refine wl_pure (l' := [(88, .bool q_52), (87, .bool q_52), (81, .bool true)]) S tys tys_ok 1 (by kernel_rfl) ?_
        clear S; intro a S
        obtain rfl := Option.some.inj eq_51
        exact ⟨rfl, S.sub (by exact ⟨rfl, trivial⟩)⟩
      · rw [if_neg hc] at eq_51; rw [show q_50 = false from Bool.eq_false_iff.2 hc] at S
        refine wl_pure (l' := [(88, .bool false), (87, undef), (86, undef), (85, undef), (84, undef), (83, undef), (82, undef), (81, .bool false), (80, .bool false), (10, .int .i64 t_18.2)]) S tys tys_ok 7 (by kernel_rfl) ?_
        clear S; intro a S
        obtain rfl := Option.some.inj eq_51
        exact ⟨rfl, S.sub (by exact ⟨rfl, trivial⟩)⟩
    clear S eq_51; rintro a _ ⟨rfl, S⟩
    refine wl_pure (l' := [(89, .bool q_51), (88, .bool q_51)]) S tys tys_ok 1 (by kernel_rfl) ?_
    clear S; intro a S
    obtain ⟨q_53, eq_53, h⟩ := bindS h
    refine seg 2 (fun a_ w_ => St 117 a_ [(91, .bool q_53)] ∧ Wd w w_ [some b_1] ∧ Bx (.arr 2 (.int .i64)) 22 w_ (Kx K w.heap.size [some b_1]) b_1 x2) ?_ ?_
    · by_cases hc : q_51 = true
      · rw [if_pos hc] at eq_53; rw [hc] at S
        obtain ⟨t_54, et_54, eq_53⟩ := bindS eq_53
        refine w_go S rfl (op_call (vs := []) S rfl cb10 rfl rfl rfl (c10 (Kx K w.heap.size [some b_1]) n w_48  et_54) ?_)
        rintro _ w_58 ⟨v_55, rfl, R_56, hb_57⟩; refine ⟨_, rfl, ?_⟩
        replace R_56 := RepV.back R_56 W
        clear S; intro a S
        replace B_2 := B_2.step hb_57
        replace W := W.step hb_57
        obtain rfl := RepV.bool R_56
        refine wl_pure (l' := [(91, .bool t_54), (90, .bool t_54), (89, .bool true), (88, .bool true)]) S tys tys_ok 1 (by kernel_rfl) ?_
        clear S; intro a S
        obtain rfl := Option.some.inj eq_53
        exact ⟨S.sub (by exact ⟨rfl, trivial⟩), W, B_2⟩
      · rw [if_neg hc] at eq_53; rw [show q_51 = false from Bool.eq_false_iff.2 hc] at S
        refine wl_pure (l' := [(91, .bool false), (90, undef), (89, .bool false), (88, .bool false)]) S tys tys_ok 2 (by kernel_rfl) ?_
        clear S; intro a S
        obtain rfl := Option.some.inj eq_53
        exact ⟨S.sub (by exact ⟨rfl, trivial⟩), W, B_2⟩
    clear S W eq_53; rintro a w_59 ⟨S, W, B_2⟩
    refine wl_pure (l' := [(6, .bool q_53), (91, .bool q_53)]) S tys tys_ok 1 (by kernel_rfl) ?_
    clear S; intro a S
    refine wpList_nil ?_
    refine then_n ?_
    replace S := S.sub (l' := [(6, .bool q_53)]) (by exact ⟨rfl, trivial⟩)
    refine wp_ret ?_
    refine then_r ?_
    obtain rfl := Option.some.inj h
    exact b_ret1 S rfl rfl ⟨_, rfl, RepV.mkBool, W.below⟩
  · intro hc
    rw [if_neg (Bool.eq_false_iff.1 hc)] at h
    refine wp_skip ?_
    refine then_n ?_
    replace S := S.sub (l' := [(7, .int .i64 t_8.1), (9, .int .i64 t_18.1)]) (by exact ⟨rfl, rfl, trivial⟩)
    refine wp_seq ?_
    refine wp_region_lit ?_
    refine wl_pure (l' := [(94, .bool (decide (t_8.1 > 0))), (93, .bool (decide (t_8.1 > 0))), (92, .int .i64 t_8.1), (7, .int .i64 t_8.1), (9, .int .i64 t_18.1)]) S tys tys_ok 3 (by kernel_rfl) ?_
    clear S; intro a S
    obtain ⟨q_60, eq_60, h⟩ := bindS h
    refine seg 3 (fun a_ w_ => w_48 = w_ ∧ St 117 a_ [(97, .bool q_60), (7, .int .i64 t_8.1), (9, .int .i64 t_18.1)]) ?_ ?_
    · by_cases hc : (decide (t_8.1 > 0)) = true
      · rw [if_pos hc] at eq_60; rw [hc] at S
        refine wl_pure (l' := [(97, .bool (decide (t_18.1 > 0))), (96, .bool (decide (t_18.1 > 0))), (95, .int .i64 t_18.1), (94, .bool true), (93, .bool true), (92, .int .i64 t_8.1), (7, .int .i64 t_8.1), (9, .int .i64 t_18.1)]) S tys tys_ok 3 (by kernel_rfl) ?_
        clear S; intro a S
        obtain rfl := Option.some.inj eq_60
        exact ⟨rfl, S.sub (by exact ⟨rfl, rfl, rfl, trivial⟩)⟩
      · rw [if_neg hc] at eq_60; rw [show (decide (t_8.1 > 0)) = false from Bool.eq_false_iff.2 hc] at S
        refine wl_pure (l' := [(97, .bool false), (96, undef), (95, undef), (94, .bool false), (93, .bool false), (92, .int .i64 t_8.1), (7, .int .i64 t_8.1), (9, .int .i64 t_18.1)]) S tys tys_ok 3 (by kernel_rfl) ?_
        clear S; intro a S
        obtain rfl := Option.some.inj eq_60
        exact ⟨rfl, S.sub (by exact ⟨rfl, rfl, rfl, trivial⟩)⟩
    clear S eq_60; rintro a _ ⟨rfl, S⟩
    refine wl_pure (l' := [(98, .bool q_60), (97, .bool q_60), (7, .int .i64 t_8.1), (9, .int .i64 t_18.1)]) S tys tys_ok 1 (by kernel_rfl) ?_
    clear S; intro a S
    obtain ⟨q_61, eq_61, h⟩ := bindS h
    refine seg 11 (fun a_ w_ => w_48 = w_ ∧ St 117 a_ [(109, .bool q_61), (7, .int .i64 t_8.1)]) ?_ ?_
    · by_cases hc : q_60 = true
      · rw [if_pos hc] at eq_61; rw [hc] at S
        refine wl_pure (l' := [(100, .int .i64 t_18.1), (99, .int .i64 t_8.1), (98, .bool true), (97, .bool true), (7, .int .i64 t_8.1), (9, .int .i64 t_18.1)]) S tys tys_ok 2 (by kernel_rfl) ?_
        clear S; intro a S
        obtain ⟨x_62, ex_62, eq_61⟩ := bindS eq_61
        refine w_go S rfl (op_rem S .i64 rfl rfl rfl rfl rfl ex_62 ?_)
        clear S; intro a S
        refine wl_pure (l' := [(103, .bool (x_62 == 0)), (102, .bool (x_62 == 0)), (101, .int .i64 x_62), (100, .int .i64 t_18.1), (99, .int .i64 t_8.1), (98, .bool true), (97, .bool true), (7, .int .i64 t_8.1), (9, .int .i64 t_18.1)]) S tys tys_ok 2 (by kernel_rfl) ?_
        clear S; intro a S
        obtain ⟨q_63, eq_63, eq_61⟩ := bindS eq_61
        refine seg 5 (fun a_ w_ => w_48 = w_ ∧ St 117 a_ [(108, .bool q_63), (98, .bool true), (7, .int .i64 t_8.1)]) ?_ ?_
        · by_cases hc : (x_62 == 0) = false
          · rw [if_pos hc] at eq_63; rw [hc] at S
            refine wl_pure (l' := [(105, .int .i64 t_8.1), (104, .int .i64 t_18.1), (103, .bool false), (102, .bool false), (101, .int .i64 x_62), (100, .int .i64 t_18.1), (99, .int .i64 t_8.1), (98, .bool true), (97, .bool true), (7, .int .i64 t_8.1), (9, .int .i64 t_18.1)]) S tys tys_ok 2 (by kernel_rfl) ?_
            clear S; intro a S
            obtain ⟨x_64, ex_64, eq_63⟩ := bindS eq_63
            refine w_go S rfl (op_rem S .i64 rfl rfl rfl rfl rfl ex_64 ?_)
            clear S; intro a S
            refine wl_pure (l' := [(108, .bool (x_64 == 0)), (107, .bool (x_64 == 0)), (106, .int .i64 x_64), (105, .int .i64 t_8.1), (104, .int .i64 t_18.1), (103, .bool false), (102, .bool false), (101, .int .i64 x_62), (100, .int .i64 t_18.1), (99, .int .i64 t_8.1), (98, .bool true), (97, .bool true), (7, .int .i64 t_8.1), (9, .int .i64 t_18.1)]) S tys tys_ok 2 (by kernel_rfl) ?_
            clear S; intro a S
            obtain rfl := Option.some.inj eq_63
            exact ⟨rfl, S.sub (by exact ⟨rfl, rfl, rfl, trivial⟩)⟩
          · rw [if_neg hc] at eq_63; rw [show (x_62 == 0) = true from (by simpa using hc)] at S
            refine wl_pure (l' := [(108, .bool true), (107, undef), (106, undef), (105, undef), (104, undef), (103, .bool true), (102, .bool true), (101, .int .i64 x_62), (100, .int .i64 t_18.1), (99, .int .i64 t_8.1), (98, .bool true), (97, .bool true), (7, .int .i64 t_8.1), (9, .int .i64 t_18.1)]) S tys tys_ok 5 (by kernel_rfl) ?_
            clear S; intro a S
            obtain rfl := Option.some.inj eq_63
            exact ⟨rfl, S.sub (by exact ⟨rfl, rfl, rfl, trivial⟩)⟩
        clear S eq_63; rintro a _ ⟨rfl, S⟩
        refine wl_pure (l' := [(109, .bool q_63), (108, .bool q_63), (98, .bool true), (7, .int .i64 t_8.1)]) S tys tys_ok 1 (by kernel_rfl) ?_
        clear S; intro a S
        obtain rfl := Option.some.inj eq_61
        exact ⟨rfl, S.sub (by exact ⟨rfl, rfl, trivial⟩)⟩
      · rw [if_neg hc] at eq_61; rw [show q_60 = false from Bool.eq_false_iff.2 hc] at S
        refine wl_pure (l' := [(109, .bool false), (108, undef), (107, undef), (106, undef), (105, undef), (104, undef), (103, undef), (102, undef), (101, undef), (100, undef), (99, undef), (98, .bool false), (97, .bool false), (7, .int .i64 t_8.1), (9, .int .i64 t_18.1)]) S tys tys_ok 11 (by kernel_rfl) ?_
        clear S; intro a S
        obtain rfl := Option.some.inj eq_61
        exact ⟨rfl, S.sub (by exact ⟨rfl, rfl, trivial⟩)⟩
    clear S eq_61; rintro a _ ⟨rfl, S⟩
    refine wl_pure (l' := [(110, .bool q_61), (109, .bool q_61), (7, .int .i64 t_8.1)]) S tys tys_ok 1 (by kernel_rfl) ?_
    clear S; intro a S
    obtain ⟨q_65, eq_65, h⟩ := bindS h
    refine seg 3 (fun a_ w_ => St 117 a_ [(113, .bool q_65)] ∧ Wd w w_ [some b_1] ∧ Bx (.arr 2 (.int .i64)) 22 w_ (Kx K w.heap.size [some b_1]) b_1 x2) ?_ ?_
    · by_cases hc : q_61 = true
      · rw [if_pos hc] at eq_65; rw [hc] at S
        refine wl_pure (l' := [(111, .int .i64 t_8.1), (110, .bool true), (109, .bool true), (7, .int .i64 t_8.1)]) S tys tys_ok 1 (by kernel_rfl) ?_
        clear S; intro a S
        obtain ⟨t_66, et_66, eq_65⟩ := bindS eq_65
        refine w_go S rfl (op_call (vs := [.int .i64 t_8.1, .int .i64 0]) S rfl cb11 rfl rfl rfl (c11 (Kx K w.heap.size [some b_1]) n w_48 t_8.1 GR_11 0 (by decide) et_66) ?_)
        rintro _ w_70 ⟨v_67, rfl, R_68, hb_69⟩; refine ⟨_, rfl, ?_⟩
        replace R_68 := RepV.back R_68 W
        clear S; intro a S
        replace B_2 := B_2.step hb_69
        replace W := W.step hb_69
        obtain rfl := RepV.bool R_68
        refine wl_pure (l' := [(113, .bool t_66), (112, .bool t_66), (111, .int .i64 t_8.1), (110, .bool true), (109, .bool true), (7, .int .i64 t_8.1)]) S tys tys_ok 1 (by kernel_rfl) ?_
        clear S; intro a S
        obtain rfl := Option.some.inj eq_65
        exact ⟨S.sub (by exact ⟨rfl, trivial⟩), W, B_2⟩
      · rw [if_neg hc] at eq_65; rw [show q_61 = false from Bool.eq_false_iff.2 hc] at S
        refine wl_pure (l' := [(113, .bool false), (112, undef), (111, undef), (110, .bool false), (109, .bool false), (7, .int .i64 t_8.1)]) S tys tys_ok 3 (by kernel_rfl) ?_
        clear S; intro a S
        obtain rfl := Option.some.inj eq_65
        exact ⟨S.sub (by exact ⟨rfl, trivial⟩), W, B_2⟩
    clear S W eq_65; rintro a w_71 ⟨S, W, B_2⟩
    refine wl_pure (l' := [(114, .bool q_65), (113, .bool q_65)]) S tys tys_ok 1 (by kernel_rfl) ?_
    clear S; intro a S
    obtain ⟨q_72, eq_72, h⟩ := bindS h
    refine seg 2 (fun a_ w_ => St 117 a_ [(116, .bool q_72)] ∧ Wd w w_ [some b_1] ∧ Bx (.arr 2 (.int .i64)) 22 w_ (Kx K w.heap.size [some b_1]) b_1 x2) ?_ ?_
    · by_cases hc : q_65 = true
      · rw [if_pos hc] at eq_72; rw [hc] at S
        obtain ⟨t_73, et_73, eq_72⟩ := bindS eq_72
        refine w_go S rfl (op_call (vs := []) S rfl cb10 rfl rfl rfl (c10 (Kx K w.heap.size [some b_1]) n w_71  et_73) ?_)
        rintro _ w_77 ⟨v_74, rfl, R_75, hb_76⟩; refine ⟨_, rfl, ?_⟩
        replace R_75 := RepV.back R_75 W
        clear S; intro a S
        replace B_2 := B_2.step hb_76
        replace W := W.step hb_76
        obtain rfl := RepV.bool R_75
        refine wl_pure (l' := [(116, .bool t_73), (115, .bool t_73), (114, .bool true), (113, .bool true)]) S tys tys_ok 1 (by kernel_rfl) ?_
        clear S; intro a S
        obtain rfl := Option.some.inj eq_72
        exact ⟨S.sub (by exact ⟨rfl, trivial⟩), W, B_2⟩
      · rw [if_neg hc] at eq_72; rw [show q_65 = false from Bool.eq_false_iff.2 hc] at S
        refine wl_pure (l' := [(116, .bool false), (115, undef), (114, .bool false), (113, .bool false)]) S tys tys_ok 2 (by kernel_rfl) ?_
        clear S; intro a S
        obtain rfl := Option.some.inj eq_72
        exact ⟨S.sub (by exact ⟨rfl, trivial⟩), W, B_2⟩
    clear S W eq_72; rintro a w_78 ⟨S, W, B_2⟩
    refine wl_pure (l' := [(6, .bool q_72), (116, .bool q_72)]) S tys tys_ok 1 (by kernel_rfl) ?_
    clear S; intro a S
    refine wpList_nil ?_
    refine then_n ?_
    replace S := S.sub (l' := [(6, .bool q_72)]) (by exact ⟨rfl, trivial⟩)
    refine wp_ret ?_
    obtain rfl := Option.some.inj h
    exact b_ret1 S rfl rfl ⟨_, rfl, RepV.mkBool, W.below⟩
def p4_l1 (n : Nat) (x0 : Int) (x1 : List (Int)) (x2 : Int) : Nat → (Int) → (Int) → Option (((Int)) ⊕ ((Bool)))
  | 0, _, _ => .none
  | m + 1, c_54, c_56 => if (decide (c_54 < x0)) then ((idx x1 0).bind fun y_68 => (ckI .i64 (x2 + c_54)).bind fun x_71 => (p12 n x0 y_68 x_71).bind fun t_72 => (idx x1 1).bind fun y_77 => (ckI .i64 (x2 + c_54)).bind fun x_80 => (p12 n x0 y_77 x_80).bind fun t_81 => (ckI .i64 (x2 + c_54)).bind fun x_160 => (remI .i64 x_160 x0).bind fun x_161 => (idx x1 0).bind fun y_162 => (if (!(t_72 == (x_161 == y_162))) = false then (if t_72 = true then some t_81 else some false).bind fun q_167 => (if q_167 = true then (idx x1 0).bind fun y_171 => (idx x1 1).bind fun y_174 => some (y_171 != y_174) else some false).bind fun q_169 => some q_169 else some true).bind fun q_165 => if q_165 then (some (.inr false)) else (if t_72 then ((ckI .i64 (c_56 + 1)).bind fun x_416 => some x_416) else some c_56).bind fun (j_414 : (Int)) => (ckI .i64 (c_54 + 1)).bind fun x_418 => p4_l1 n x0 x1 x2 m x_418 j_414) else some (.inl c_56)
def p4 (n : Nat) (x0 : Int) (x1 : List (Int)) (x2 : Int) : Option ((Bool)) :=
  if (decide (x2 > 4611686018427387904)) then (some true) else (idx x1 0).bind fun y_5 => (p11 n x0 y_5).bind fun t_8 => if (!t_8) then ((idx x1 0).bind fun y_13 => (p12 n x0 y_13 x2).bind fun t_16 => (if (!t_16) = true then (idx x1 0).bind fun y_22 => (ckI .i64 (x2 + 1000)).bind fun x_25 => (p13 n x0 y_22 x2 x_25).bind fun t_26 => some (t_26 == 0) else some false).bind fun q_21 => (if q_21 = true then (p10 n).bind fun t_33 => some t_33 else some false).bind fun q_32 => some q_32) else if (decide (x2 < 0)) then ((idx x1 0).bind fun y_39 => (p12 n x0 y_39 x2).bind fun t_42 => (if (!t_42) = true then (p10 n).bind fun t_48 => some t_48 else some false).bind fun q_47 => some q_47) else (p4_l1 n x0 x1 x2 n 0 0).bind fun (y_62 : ((Int)) ⊕ ((Bool))) => lrK y_62 some fun (s_63 : (Int)) => (if (s_63 == 1) = true then (idx x1 0).bind fun y_421 => (ckI .i64 (x2 + x0)).bind fun x_424 => (p13 n x0 y_421 x2 x_424).bind fun t_425 => some (t_425 == 1) else some false).bind fun q_420 => (if q_420 = true then (p10 n).bind fun t_432 => some t_432 else some false).bind fun q_431 => some q_431
set_option maxHeartbeats 4000000 in
set_option maxRecDepth 100000 in
/-- plugboard/plugboardlaw10.PeriodicsDue -/
theorem c4 (K : Nat → Prop) (n : Nat) (w : World) (x0 : Int) (G0 : InR .i64 x0) (x1 : List (Int)) (v1 : Value) (R1 : RepV (.arr 2 (.int .i64)) w K v1 x1) (x2 : Int) (G2 : InR .i64 x2) {r : (Bool)} (h : p4 n x0 x1 x2 = some r) :
    Calls Try.prog 4 #[.int .i64 x0, v1, .int .i64 x2] w (Ret1 .bool w (Kx K w.heap.size []) r) := by
  refine enter (args := [.int .i64 x0, v1, .int .i64 x2]) Try.func4 rfl 109 rfl rfl fun a S => ?_
  have W := Wd.start w
  replace R1 := R1.arg
  unfold p4 at h
  replace S : St 109 a [(0, .int .i64 x0), (1, v1), (2, .int .i64 x2)] := S
  refine wp_seq ?_
  refine wp_region_lit ?_
  refine w_go S rfl (op_box S rfl rfl rfl rfl rfl R1 ?_)
  clear S; intro a w_3 b_1 hb_4 B_2 S
  replace R1 := R1.box hb_4
  replace W := W.box hb_4
  refine wl_pure (l' := [(6, .bool false), (4, .pointer (some (⟨b_1, 0, .none⟩ : Addr))), (0, .int .i64 x0), (1, v1), (2, .int .i64 x2)]) S tys tys_ok 1 (by kernel_rfl) ?_
  clear S; intro a S
  refine wpList_nil ?_
  refine then_n ?_
  replace S := S.sub (l' := [(4, .pointer (some (⟨b_1, 0, .none⟩ : Addr))), (0, .int .i64 x0), (2, .int .i64 x2)]) (by exact ⟨rfl, rfl, rfl, trivial⟩)
  refine wp_seq ?_
  refine wp_seq ?_
  refine wp_region_lit ?_
  refine wl_pure (l' := [(12, .bool (decide (x2 > 4611686018427387904))), (11, .int .i64 x2), (4, .pointer (some (⟨b_1, 0, .none⟩ : Addr))), (0, .int .i64 x0), (2, .int .i64 x2)]) S tys tys_ok 2 (by kernel_rfl) ?_
  clear S; intro a S
  refine wpList_nil ?_
  refine then_n ?_
  replace S := S.sub (l' := [(12, .bool (decide (x2 > 4611686018427387904))), (4, .pointer (some (⟨b_1, 0, .none⟩ : Addr))), (0, .int .i64 x0), (2, .int .i64 x2)]) (by exact ⟨rfl, rfl, rfl, rfl, trivial⟩)
  refine wp_cond_split (S.eval (show ev _ _ = some (.bool (decide (x2 > 4611686018427387904))) from rfl)) ?_ ?_
  · intro hc
    rw [if_pos hc] at h
    refine wp_seq ?_
    refine wp_region_lit ?_
    refine wl_pure (l' := [(6, .bool true), (12, .bool (decide (x2 > 4611686018427387904))), (4, .pointer (some (⟨b_1, 0, .none⟩ : Addr))), (0, .int .i64 x0), (2, .int .i64 x2)]) S tys tys_ok 1 (by kernel_rfl) ?_
    clear S; intro a S
    refine wpList_nil ?_
    refine then_n ?_
    replace S := S.sub (l' := [(6, .bool true)]) (by exact ⟨rfl, trivial⟩)
    refine wp_ret ?_
    refine then_r ?_
    obtain rfl := Option.some.inj h
    exact b_ret1 S rfl rfl ⟨_, rfl, RepV.mkBool, W.below⟩
  · intro hc
    rw [if_neg (Bool.eq_false_iff.1 hc)] at h
    refine wp_skip ?_
    refine then_n ?_
    replace S := S.sub (l' := [(4, .pointer (some (⟨b_1, 0, .none⟩ : Addr))), (0, .int .i64 x0), (2, .int .i64 x2)]) (by exact ⟨rfl, rfl, rfl, trivial⟩)
    refine wp_seq ?_
    refine wp_seq ?_
    refine wp_region_lit ?_
    refine wl_pure (l' := [(13, .int .i64 x0), (4, .pointer (some (⟨b_1, 0, .none⟩ : Addr))), (0, .int .i64 x0), (2, .int .i64 x2)]) S tys tys_ok 1 (by kernel_rfl) ?_
    clear S; intro a S
    obtain ⟨y_5, ey_5, h⟩ := bindS h
    refine w_go S rfl (op_indexAddr_arr S rfl ty22 rfl rfl rfl B_2.at_ rfl ey_5 ?_)
    clear S; intro a S
    refine w_go S rfl (op_load (t := (.int .i64)) (x := y_5) S rfl ty3 rfl rfl rfl (RepAt.ix B_2.at_ ey_5) ?_)
    clear S; intro a v_6 R_7 S
    obtain ⟨rfl, GR_7⟩ := RepV.int R_7
    obtain ⟨t_8, et_8, h⟩ := bindS h
    refine w_go S rfl (op_call (vs := [.int .i64 x0, .int .i64 y_5]) S rfl cb11 rfl rfl rfl (c11 (Kx K w.heap.size [some b_1]) n w_3 x0 G0 y_5 GR_7 et_8) ?_)
    rintro _ w_12 ⟨v_9, rfl, R_10, hb_11⟩; refine ⟨_, rfl, ?_⟩
    replace R_10 := RepV.back R_10 W
    clear S; intro a S
    replace B_2 := B_2.step hb_11
    replace W := W.step hb_11
    obtain rfl := RepV.bool R_10
    refine wl_pure (l' := [(17, .bool (!t_8)), (16, .bool t_8), (15, .int .i64 y_5), (14, .pointer (some ((⟨b_1, 0, .none⟩ : Addr).add ((0 : Int).toNat * GT.sz (.int .i64))))), (13, .int .i64 x0), (4, .pointer (some (⟨b_1, 0, .none⟩ : Addr))), (0, .int .i64 x0), (2, .int .i64 x2)]) S tys tys_ok 1 (by kernel_rfl) ?_
    clear S; intro a S
    refine wpList_nil ?_
    refine then_n ?_
    replace S := S.sub (l' := [(17, .bool (!t_8)), (4, .pointer (some (⟨b_1, 0, .none⟩ : Addr))), (0, .int .i64 x0), (2, .int .i64 x2)]) (by exact ⟨rfl, rfl, rfl, rfl, trivial⟩)
    refine wp_cond_split (S.eval (show ev _ _ = some (.bool (!t_8)) from rfl)) ?_ ?_
    · intro hc
      rw [if_pos hc] at h
      refine wp_seq ?_
      refine wp_region_lit ?_
      refine wl_pure (l' := [(18, .int .i64 x0), (17, .bool (!t_8)), (4, .pointer (some (⟨b_1, 0, .none⟩ : Addr))), (0, .int .i64 x0), (2, .int .i64 x2)]) S tys tys_ok 1 (by kernel_rfl) ?_
      clear S; intro a S
      obtain ⟨y_13, ey_13, h⟩ := bindS h
      refine w_go S rfl (op_indexAddr_arr S rfl ty22 rfl rfl rfl B_2.at_ rfl ey_13 ?_)
      clear S; intro a S
      refine w_go S rfl (op_load (t := (.int .i64)) (x := y_13) S rfl ty3 rfl rfl rfl (RepAt.ix B_2.at_ ey_13) ?_)
      clear S; intro a v_14 R_15 S
      obtain ⟨rfl, GR_15⟩ := RepV.int R_15
      refine wl_pure (l' := [(21, .int .i64 x2), (20, .int .i64 y_13), (19, .pointer (some ((⟨b_1, 0, .none⟩ : Addr).add ((0 : Int).toNat * GT.sz (.int .i64))))), (18, .int .i64 x0), (17, .bool (!t_8)), (4, .pointer (some (⟨b_1, 0, .none⟩ : Addr))), (0, .int .i64 x0), (2, .int .i64 x2)]) S tys tys_ok 1 (by kernel_rfl) ?_
      clear S; intro a S
      obtain ⟨t_16, et_16, h⟩ := bindS h
      refine w_go S rfl (op_call (vs := [.int .i64 x0, .int .i64 y_13, .int .i64 x2]) S rfl cb12 rfl rfl rfl (c12 (Kx K w.heap.size [some b_1]) n w_12 x0 G0 y_13 GR_15 x2 G2 et_16) ?_)
      rintro _ w_20 ⟨v_17, rfl, R_18, hb_19⟩; refine ⟨_, rfl, ?_⟩
      replace R_18 := RepV.back R_18 W
      clear S; intro a S
      replace B_2 := B_2.step hb_19
      replace W := W.step hb_19
      obtain rfl := RepV.bool R_18
      refine wl_pure (l' := [(24, .bool (!t_16)), (23, .bool (!t_16)), (22, .bool t_16), (21, .int .i64 x2), (20, .int .i64 y_13), (19, .pointer (some ((⟨b_1, 0, .none⟩ : Addr).add ((0 : Int).toNat * GT.sz (.int .i64))))), (18, .int .i64 x0), (17, .bool (!t_8)), (4, .pointer (some (⟨b_1, 0, .none⟩ : Addr))), (0, .int .i64 x0), (2, .int .i64 x2)]) S tys tys_ok 2 (by kernel_rfl) ?_
      clear S; intro a S
      obtain ⟨q_21, eq_21, h⟩ := bindS h
      refine seg 9 (fun a_ w_ => St 109 a_ [(33, .bool q_21)] ∧ Wd w w_ [some b_1] ∧ Bx (.arr 2 (.int .i64)) 22 w_ (Kx K w.heap.size [some b_1]) b_1 x1) ?_ ?_
      · by_cases hc : (!t_16) = true
        · rw [if_pos hc] at eq_21; rw [hc] at S
          refine wl_pure (l' := [(25, .int .i64 x0), (24, .bool true), (23, .bool true), (22, .bool t_16), (21, .int .i64 x2), (20, .int .i64 y_13), (19, .pointer (some ((⟨b_1, 0, .none⟩ : Addr).add ((0 : Int).toNat * GT.sz (.int .i64))))), (18, .int .i64 x0), (17, .bool (!t_8)), (4, .pointer (some (⟨b_1, 0, .none⟩ : Addr))), (0, .int .i64 x0), (2, .int .i64 x2)]) S tys tys_ok 1 (by kernel_rfl) ?_
          clear S; intro a S
          obtain ⟨y_22, ey_22, eq_21⟩ := bindS eq_21
          refine w_go S rfl (op_indexAddr_arr S rfl ty22 rfl rfl rfl B_2.at_ rfl ey_22 ?_)
          clear S; intro a S
          refine w_go S rfl (op_load (t := (.int .i64)) (x := y_22) S rfl ty3 rfl rfl rfl (RepAt.ix B_2.at_ ey_22) ?_)
          clear S; intro a v_23 R_24 S
          obtain ⟨rfl, GR_24⟩ := RepV.int R_24
          refine wl_pure (l' := [(29, .int .i64 x2), (28, .int .i64 x2), (27, .int .i64 y_22), (26, .pointer (some ((⟨b_1, 0, .none⟩ : Addr).add ((0 : Int).toNat * GT.sz (.int .i64))))), (25, .int .i64 x0), (24, .bool true), (23, .bool true), (22, .bool t_16), (21, .int .i64 x2), (20, .int .i64 y_13), (19, .pointer (some ((⟨b_1, 0, .none⟩ : Addr).add ((0 : Int).toNat * GT.sz (.int .i64))))), (18, .int .i64 x0), (17, .bool (!t_8)), (4, .pointer (some (⟨b_1, 0, .none⟩ : Addr))), (0, .int .i64 x0), (2, .int .i64 x2)]) S tys tys_ok 2 (by kernel_rfl) ?_
          clear S; intro a S
          obtain ⟨x_25, ex_25, eq_21⟩ := bindS eq_21
          refine w_go S rfl (op_arith S .i64 (x2 + 1000) rfl (.inl rfl) rfl rfl rfl rfl ex_25 ?_)
          clear S; intro a S
          obtain ⟨t_26, et_26, eq_21⟩ := bindS eq_21
          refine w_go S rfl (op_call (vs := [.int .i64 x0, .int .i64 y_22, .int .i64 x2, .int .i64 x_25]) S rfl cb13 rfl rfl rfl (c13 (Kx K w.heap.size [some b_1]) n w_20 x0 G0 y_22 GR_24 x2 G2 x_25 (ckI_some ex_25).2.1 et_26) ?_)
          rintro _ w_30 ⟨v_27, rfl, R_28, hb_29⟩; refine ⟨_, rfl, ?_⟩
          replace R_28 := RepV.back R_28 W
          clear S; intro a S
          replace B_2 := B_2.step hb_29
          replace W := W.step hb_29
          obtain ⟨rfl, GR_28⟩ := RepV.int R_28
          refine wl_pure (l' := [(33, .bool (t_26 == 0)), (32, .bool (t_26 == 0)), (31, .int .i64 t_26), (30, .int .i64 x_25), (29, .int .i64 x2), (28, .int .i64 x2), (27, .int .i64 y_22), (26, .pointer (some ((⟨b_1, 0, .none⟩ : Addr).add ((0 : Int).toNat * GT.sz (.int .i64))))), (25, .int .i64 x0), (24, .bool true), (23, .bool true), (22, .bool t_16), (21, .int .i64 x2), (20, .int .i64 y_13), (19, .pointer (some ((⟨b_1, 0, .none⟩ : Addr).add ((0 : Int).toNat * GT.sz (.int .i64))))), (18, .int .i64 x0), (17, .bool (!t_8)), (4, .pointer (some (⟨b_1, 0, .none⟩ : Addr))), (0, .int .i64 x0), (2, .int .i64 x2)]) S tys tys_ok 2 (by kernel_rfl) ?_
          clear S; intro a S
          obtain rfl := Option.some.inj eq_21
          exact ⟨S.sub (by exact ⟨rfl, trivial⟩), W, B_2⟩
        · rw [if_neg hc] at eq_21; rw [show (!t_16) = false from Bool.eq_false_iff.2 hc] at S
          refine wl_pure (l' := [(33, .bool false), (32, undef), (31, undef), (30, undef), (29, undef), (28, undef), (27, undef), (26, undef), (25, undef), (24, .bool false), (23, .bool false), (22, .bool t_16), (21, .int .i64 x2), (20, .int .i64 y_13), (19, .pointer (some ((⟨b_1, 0, .none⟩ : Addr).add ((0 : Int).toNat * GT.sz (.int .i64))))), (18, .int .i64 x0), (17, .bool (!t_8)), (4, .pointer (some (⟨b_1, 0, .none⟩ : Addr))), (0, .int .i64 x0), (2, .int .i64 x2)]) S tys tys_ok 9 (by kernel_rfl) ?_
          clear S; intro a S
          obtain rfl := Option.some.inj eq_21
          exact ⟨S.sub (by exact ⟨rfl, trivial⟩), W, B_2⟩
      clear S W eq_21; rintro a w_31 ⟨S, W, B_2⟩
      refine wl_pure (l' := [(34, .bool q_21), (33, .bool q_21)]) S tys tys_ok 1 (by kernel_rfl) ?_
      clear S; intro a S
      obtain ⟨q_32, eq_32, h⟩ := bindS h
      refine seg 2 (fun a_ w_ => St 109 a_ [(36, .bool q_32)] ∧ Wd w w_ [some b_1] ∧ Bx (.arr 2 (.int .i64)) 22 w_ (Kx K w.heap.size [some b_1]) b_1 x1) ?_ ?_
      · by_cases hc : q_21 = true
        · rw [if_pos hc] at eq_32; rw [hc] at S
          obtain ⟨t_33, et_33, eq_32⟩ := bindS eq_32
          refine w_go S rfl (op_call (vs := []) S rfl cb10 rfl rfl rfl (c10 (Kx K w.heap.size [some b_1]) n w_31  et_33) ?_)
          rintro _ w_37 ⟨v_34, rfl, R_35, hb_36⟩; refine ⟨_, rfl, ?_⟩
          replace R_35 := RepV.back R_35 W
          clear S; intro a S
          replace B_2 := B_2.step hb_36
          replace W := W.step hb_36
          obtain rfl := RepV.bool R_35
          refine wl_pure (l' := [(36, .bool t_33), (35, .bool t_33), (34, .bool true), (33, .bool true)]) S tys tys_ok 1 (by kernel_rfl) ?_
          clear S; intro a S
          obtain rfl := Option.some.inj eq_32
          exact ⟨S.sub (by exact ⟨rfl, trivial⟩), W, B_2⟩
        · rw [if_neg hc] at eq_32; rw [show q_21 = false from Bool.eq_false_iff.2 hc] at S
          refine wl_pure (l' := [(36, .bool false), (35, undef), (34, .bool false), (33, .bool false)]) S tys tys_ok 2 (by kernel_rfl) ?_
          clear S; intro a S
          obtain rfl := Option.some.inj eq_32
          exact ⟨S.sub (by exact ⟨rfl, trivial⟩), W, B_2⟩
      clear S W eq_32; rintro a w_38 ⟨S, W, B_2⟩
      refine wl_pure (l' := [(6, .bool q_32), (36, .bool q_32)]) S tys tys_ok 1 (by kernel_rfl) ?_
      clear S; intro a S
      refine wpList_nil ?_
      refine then_n ?_
      replace S := S.sub (l' := [(6, .bool q_32)]) (by exact ⟨rfl, trivial⟩)
      refine wp_ret ?_
      refine then_r ?_
      obtain rfl := Option.some.inj h
      exact b_ret1 S rfl rfl ⟨_, rfl, RepV.mkBool, W.below⟩
    · intro hc
      rw [if_neg (Bool.eq_false_iff.1 hc)] at h
      refine wp_skip ?_
      refine then_n ?_
      replace S := S.sub (l' := [(4, .pointer (some (⟨b_1, 0, .none⟩ : Addr))), (0, .int .i64 x0), (2, .int .i64 x2)]) (by exact ⟨rfl, rfl, rfl, trivial⟩)
      refine wp_seq ?_
      refine wp_seq ?_
      refine wp_region_lit ?_
      refine wl_pure (l' := [(38, .bool (decide (x2 < 0))), (37, .int .i64 x2), (4, .pointer (some (⟨b_1, 0, .none⟩ : Addr))), (0, .int .i64 x0), (2, .int .i64 x2)]) S tys tys_ok 2 (by kernel_rfl) ?_
      clear S; intro a S
      refine wpList_nil ?_
      refine then_n ?_
      replace S := S.sub (l' := [(38, .bool (decide (x2 < 0))), (4, .pointer (some (⟨b_1, 0, .none⟩ : Addr))), (0, .int .i64 x0), (2, .int .i64 x2)]) (by exact ⟨rfl, rfl, rfl, rfl, trivial⟩)
      refine wp_cond_split (S.eval (show ev _ _ = some (.bool (decide (x2 < 0))) from rfl)) ?_ ?_
      · intro hc
        rw [if_pos hc] at h
        refine wp_seq ?_
        refine wp_region_lit ?_
        refine wl_pure (l' := [(39, .int .i64 x0), (38, .bool (decide (x2 < 0))), (4, .pointer (some (⟨b_1, 0, .none⟩ : Addr))), (0, .int .i64 x0), (2, .int .i64 x2)]) S tys tys_ok 1 (by kernel_rfl) ?_
        clear S; intro a S
        obtain ⟨y_39, ey_39, h⟩ := bindS h
        refine w_go S rfl (op_indexAddr_arr S rfl ty22 rfl rfl rfl B_2.at_ rfl ey_39 ?_)
        clear S; intro a S
        refine w_go S rfl (op_load (t := (.int .i64)) (x := y_39) S rfl ty3 rfl rfl rfl (RepAt.ix B_2.at_ ey_39) ?_)
        clear S; intro a v_40 R_41 S
        obtain ⟨rfl, GR_41⟩ := RepV.int R_41
        refine wl_pure (l' := [(42, .int .i64 x2), (41, .int .i64 y_39), (40, .pointer (some ((⟨b_1, 0, .none⟩ : Addr).add ((0 : Int).toNat * GT.sz (.int .i64))))), (39, .int .i64 x0), (38, .bool (decide (x2 < 0))), (4, .pointer (some (⟨b_1, 0, .none⟩ : Addr))), (0, .int .i64 x0), (2, .int .i64 x2)]) S tys tys_ok 1 (by kernel_rfl) ?_
        clear S; intro a S
        obtain ⟨t_42, et_42, h⟩ := bindS h
        refine w_go S rfl (op_call (vs := [.int .i64 x0, .int .i64 y_39, .int .i64 x2]) S rfl cb12 rfl rfl rfl (c12 (Kx K w.heap.size [some b_1]) n w_12 x0 G0 y_39 GR_41 x2 G2 et_42) ?_)
        rintro _ w_46 ⟨v_43, rfl, R_44, hb_45⟩; refine ⟨_, rfl, ?_⟩
        replace R_44 := RepV.back R_44 W
        clear S; intro a S
        replace B_2 := B_2.step hb_45
        replace W := W.step hb_45
        obtain rfl := RepV.bool R_44
        refine wl_pure (l' := [(45, .bool (!t_42)), (44, .bool (!t_42)), (43, .bool t_42), (42, .int .i64 x2), (41, .int .i64 y_39), (40, .pointer (some ((⟨b_1, 0, .none⟩ : Addr).add ((0 : Int).toNat * GT.sz (.int .i64))))), (39, .int .i64 x0), (38, .bool (decide (x2 < 0))), (4, .pointer (some (⟨b_1, 0, .none⟩ : Addr))), (0, .int .i64 x0), (2, .int .i64 x2)]) S tys tys_ok 2 (by kernel_rfl) ?_
        clear S; intro a S
        obtain ⟨q_47, eq_47, h⟩ := bindS h
        refine seg 2 (fun a_ w_ => St 109 a_ [(47, .bool q_47)] ∧ Wd w w_ [some b_1] ∧ Bx (.arr 2 (.int .i64)) 22 w_ (Kx K w.heap.size [some b_1]) b_1 x1) ?_ ?_
        · by_cases hc : (!t_42) = true
          · rw [if_pos hc] at eq_47; rw [hc] at S
            obtain ⟨t_48, et_48, eq_47⟩ := bindS eq_47
            refine w_go S rfl (op_call (vs := []) S rfl cb10 rfl rfl rfl (c10 (Kx K w.heap.size [some b_1]) n w_46  et_48) ?_)
            rintro _ w_52 ⟨v_49, rfl, R_50, hb_51⟩; refine ⟨_, rfl, ?_⟩
            replace R_50 := RepV.back R_50 W
            clear S; intro a S
            replace B_2 := B_2.step hb_51
            replace W := W.step hb_51
            obtain rfl := RepV.bool R_50
            refine wl_pure (l' := [(47, .bool t_48), (46, .bool t_48), (45, .bool true), (44, .bool true), (43, .bool t_42), (42, .int .i64 x2), (41, .int .i64 y_39), (40, .pointer (some ((⟨b_1, 0, .none⟩ : Addr).add ((0 : Int).toNat * GT.sz (.int .i64))))), (39, .int .i64 x0), (38, .bool (decide (x2 < 0))), (4, .pointer (some (⟨b_1, 0, .none⟩ : Addr))), (0, .int .i64 x0), (2, .int .i64 x2)]) S tys tys_ok 1 (by kernel_rfl) ?_
            clear S; intro a S
            obtain rfl := Option.some.inj eq_47
            exact ⟨S.sub (by exact ⟨rfl, trivial⟩), W, B_2⟩
          · rw [if_neg hc] at eq_47; rw [show (!t_42) = false from Bool.eq_false_iff.2 hc] at S
            refine wl_pure (l' := [(47, .bool false), (46, undef), (45, .bool false), (44, .bool false), (43, .bool t_42), (42, .int .i64 x2), (41, .int .i64 y_39), (40, .pointer (some ((⟨b_1, 0, .none⟩ : Addr).add ((0 : Int).toNat * GT.sz (.int .i64))))), (39, .int .i64 x0), (38, .bool (decide (x2 < 0))), (4, .pointer (some (⟨b_1, 0, .none⟩ : Addr))), (0, .int .i64 x0), (2, .int .i64 x2)]) S tys tys_ok 2 (by kernel_rfl) ?_
            clear S; intro a S
            obtain rfl := Option.some.inj eq_47
            exact ⟨S.sub (by exact ⟨rfl, trivial⟩), W, B_2⟩
        clear S W eq_47; rintro a w_53 ⟨S, W, B_2⟩
        refine wl_pure (l' := [(6, .bool q_47), (47, .bool q_47)]) S tys tys_ok 1 (by kernel_rfl) ?_
        clear S; intro a S
        refine wpList_nil ?_
        refine then_n ?_
        replace S := S.sub (l' := [(6, .bool q_47)]) (by exact ⟨rfl, trivial⟩)
        refine wp_ret ?_
        refine then_r ?_
        obtain rfl := Option.some.inj h
        exact b_ret1 S rfl rfl ⟨_, rfl, RepV.mkBool, W.below⟩
      · intro hc
        rw [if_neg (Bool.eq_false_iff.1 hc)] at h
        refine wp_skip ?_
        refine then_n ?_
        replace S := S.sub (l' := [(4, .pointer (some (⟨b_1, 0, .none⟩ : Addr))), (0, .int .i64 x0), (2, .int .i64 x2)]) (by exact ⟨rfl, rfl, rfl, trivial⟩)
        refine wp_seq ?_
        refine wp_region_lit ?_
        refine wl_pure (l' := [(7, .int .i64 0), (4, .pointer (some (⟨b_1, 0, .none⟩ : Addr))), (0, .int .i64 x0), (2, .int .i64 x2)]) S tys tys_ok 1 (by kernel_rfl) ?_
        clear S; intro a S
        refine wpList_nil ?_
        refine then_n ?_
        refine wp_seq ?_
        refine wp_seq ?_
        refine wp_region_lit ?_
        refine wl_pure (l' := [(8, .int .i64 0), (7, .int .i64 0), (4, .pointer (some (⟨b_1, 0, .none⟩ : Addr))), (0, .int .i64 x0), (2, .int .i64 x2)]) S tys tys_ok 1 (by kernel_rfl) ?_
        clear S; intro a S
        refine wpList_nil ?_
        refine then_n ?_
        obtain ⟨y_62, ey_62, h⟩ := bindS h
        refine wp_cut_ (fun a_ w_ => ∃ s_63 : (Int), y_62 = .inl s_63 ∧ (St 109 a_ [(0, .int .i64 x0), (2, .int .i64 x2), (4, .pointer (some (⟨b_1, 0, .none⟩ : Addr))), (7, .int .i64 s_63)] ∧ Wd w w_ [some b_1] ∧ InR .i64 s_63 ∧ Bx (.arr 2 (.int .i64)) 22 w_ (Kx K w.heap.size [some b_1]) b_1 x1)) ?_ ?_
        · refine wp_block ?_
          refine wp_loop_n (fun m_ a_ w_ => ∃ (c_54 : Int) (c_56 : Int) , St 109 a_ [(8, .int .i64 c_54), (7, .int .i64 c_56), (4, .pointer (some (⟨b_1, 0, .none⟩ : Addr))), (0, .int .i64 x0), (2, .int .i64 x2)] ∧ Wd w w_ [some b_1] ∧ InR .i64 c_54 ∧ InR .i64 c_56 ∧ Bx (.arr 2 (.int .i64)) 22 w_ (Kx K w.heap.size [some b_1]) b_1 x1 ∧ p4_l1 n x0 x1 x2 m_ c_54 c_56 = some y_62) n ?_ ?_
          · skip
            exact ⟨0, 0, ⟨S.sub (by exact ⟨rfl, rfl, rfl, rfl, rfl, trivial⟩), W, (by decide), (by decide), B_2, ey_62⟩⟩
          · clear S W; rintro m_65 a w_67 ⟨c_54, c_56, S, W, G_55, G_57, B_2, hl_66⟩
            cases m_65 with
            | zero => exact absurd hl_66 (by simp [p4_l1])
            | succ m_65 =>
              refine ⟨m_65, rfl, ?_⟩
              rw [p4_l1] at hl_66
              refine wp_seq ?_
              refine wp_seq ?_
              refine wp_region_lit ?_
              refine wl_pure (l' := [(50, .bool (decide (c_54 < x0))), (49, .int .i64 x0), (48, .int .i64 c_54), (8, .int .i64 c_54), (7, .int .i64 c_56), (4, .pointer (some (⟨b_1, 0, .none⟩ : Addr))), (0, .int .i64 x0), (2, .int .i64 x2)]) S tys tys_ok 3 (by kernel_rfl) ?_
              clear S; intro a S
              refine wpList_nil ?_
              refine then_n ?_
              replace S := S.sub (l' := [(50, .bool (decide (c_54 < x0))), (8, .int .i64 c_54), (7, .int .i64 c_56), (4, .pointer (some (⟨b_1, 0, .none⟩ : Addr))), (0, .int .i64 x0), (2, .int .i64 x2)]) (by exact ⟨rfl, rfl, rfl, rfl, rfl, rfl, trivial⟩)
              refine wp_cond_split (S.eval (show ev _ _ = some (.bool (decide (c_54 < x0))) from rfl)) ?_ ?_
              · intro hc
                rw [if_pos hc] at hl_66
                refine wp_skip ?_
                refine then_n ?_
                replace S := S.sub (l' := [(8, .int .i64 c_54), (7, .int .i64 c_56), (4, .pointer (some (⟨b_1, 0, .none⟩ : Addr))), (0, .int .i64 x0), (2, .int .i64 x2)]) (by exact ⟨rfl, rfl, rfl, rfl, rfl, trivial⟩)
                refine wp_seq ?_
                refine wp_block ?_
                refine wp_seq ?_
                obtain ⟨y_68, ey_68, hl_66⟩ := bindS hl_66
                obtain ⟨x_71, ex_71, hl_66⟩ := bindS hl_66
                obtain ⟨t_72, et_72, hl_66⟩ := bindS hl_66
                obtain ⟨y_77, ey_77, hl_66⟩ := bindS hl_66
                obtain ⟨x_80, ex_80, hl_66⟩ := bindS hl_66
                obtain ⟨t_81, et_81, hl_66⟩ := bindS hl_66
                have hR : Rel (Kx K w.heap.size [some b_1]) Bl := Bl.rel _
                refine wp_region_all hR [isI .i64 x0, eqv (.pointer (some ((⟨b_1, 0, .none⟩ : Addr).add ((0 : Int).toNat * GT.sz (.int .i64))))), isI .i64 y_68, isI .i64 x2, isI .i64 c_54, isI .i64 x_71, eqv (.bool t_72), isI .i64 x0, eqv (.pointer (some ((⟨b_1, 0, .none⟩ : Addr).add ((1 : Int).toNat * GT.sz (.int .i64))))), isI .i64 y_77, isI .i64 x2, isI .i64 c_54, isI .i64 x_80, eqv (.bool t_81), eqv (.bool t_72), eqv (.bool t_81)] [[], [], [(1, 54)], [], [], [(3, 56), (4, 57)], [(0, 53), (2, 55), (5, 58)], [], [], [(8, 61)], [], [], [(10, 63), (11, 64)], [(7, 60), (9, 62), (12, 65)], [(6, 59)], [(13, 66)]] (by kernel_rfl) (by rw [S.size]; kernel_rfl) (by kernel_rfl) (by kernel_rfl) rfl ⟨stab_I, (stab_eqv _), stab_I, stab_I, stab_I, stab_I, (stab_eqv _), stab_I, (stab_eqv _), stab_I, stab_I, stab_I, stab_I, (stab_eqv _), (stab_eqv _), (stab_eqv _), trivial⟩ ?_ ?_
                ·
                  refine RunAll.cons (isI .i64 x0) [] rfl rfl ?_ ?_
                  · intro W_ hW
                    have S1 := S
                    refine fill_nil S1 ?_; clear S1; intro a_ S1
                    have S0 := S.defers; replace S := S1; clear S1
                    refine wl_pure (l' := [(53, .int .i64 x0), (8, .int .i64 c_54), (7, .int .i64 c_56), (4, .pointer (some (⟨b_1, 0, .none⟩ : Addr))), (0, .int .i64 x0), (2, .int .i64 x2)]) S tys tys_ok 1 (by kernel_rfl) ?_; clear S; intro a S
                    refine wpList_nil ?_
                    exact RPost.mk_ S rfl S0 ⟨rfl, G0⟩ (Below.refl _ _)
                  refine RunAll.cons (eqv (.pointer (some ((⟨b_1, 0, .none⟩ : Addr).add ((0 : Int).toNat * GT.sz (.int .i64)))))) [] rfl rfl ?_ ?_
                  · intro W_ hW
                    have S1 := S
                    refine fill_nil S1 ?_; clear S1; intro a_ S1
                    replace B_2 := B_2.step hW
                    replace W := W.step hW
                    have S0 := S.defers; replace S := S1; clear S1
                    refine w_go S rfl (op_indexAddr_arr S rfl ty22 rfl rfl rfl B_2.at_ rfl ey_68 ?_)
                    clear S; intro a S
                    refine wpList_nil ?_
                    exact RPost.mk_ S rfl S0 rfl (Below.refl _ _)
                  refine RunAll.cons (isI .i64 y_68) [(eqv (.pointer (some ((⟨b_1, 0, .none⟩ : Addr).add ((0 : Int).toNat * GT.sz (.int .i64))))), 54)] rfl rfl ?_ ?_
                  · intro W_ hW
                    have S1 := S
                    intro v_87 hF_86; obtain rfl : .pointer (some ((⟨b_1, 0, .none⟩ : Addr).add ((0 : Int).toNat * GT.sz (.int .i64)))) = v_87 := Eq.symm hF_86
                    replace S1 := S1.put (by decide : 54 < 109) (.pointer (some ((⟨b_1, 0, .none⟩ : Addr).add ((0 : Int).toNat * GT.sz (.int .i64)))))
                    refine fill_nil S1 ?_; clear S1; intro a_ S1
                    replace B_2 := B_2.step hW
                    have S0 := S.defers; replace S := S1; clear S1
                    refine w_go S rfl (op_load (t := (.int .i64)) (x := y_68) S rfl ty3 rfl rfl rfl (RepAt.ix B_2.at_ ey_68) ?_)
                    clear S; intro a v_88 R_89 S
                    obtain ⟨rfl, GR_89⟩ := RepV.int R_89
                    refine wpList_nil ?_
                    exact RPost.mk_ S rfl S0 ⟨rfl, GR_89⟩ (Below.refl _ _)
                  refine RunAll.cons (isI .i64 x2) [] rfl rfl ?_ ?_
                  · intro W_ hW
                    have S1 := S
                    refine fill_nil S1 ?_; clear S1; intro a_ S1
                    have S0 := S.defers; replace S := S1; clear S1
                    refine wl_pure (l' := [(56, .int .i64 x2), (8, .int .i64 c_54), (7, .int .i64 c_56), (4, .pointer (some (⟨b_1, 0, .none⟩ : Addr))), (0, .int .i64 x0), (2, .int .i64 x2)]) S tys tys_ok 1 (by kernel_rfl) ?_; clear S; intro a S
                    refine wpList_nil ?_
                    exact RPost.mk_ S rfl S0 ⟨rfl, G2⟩ (Below.refl _ _)
                  refine RunAll.cons (isI .i64 c_54) [] rfl rfl ?_ ?_
                  · intro W_ hW
                    have S1 := S
                    refine fill_nil S1 ?_; clear S1; intro a_ S1
                    have S0 := S.defers; replace S := S1; clear S1
                    refine wl_pure (l' := [(57, .int .i64 c_54), (8, .int .i64 c_54), (7, .int .i64 c_56), (4, .pointer (some (⟨b_1, 0, .none⟩ : Addr))), (0, .int .i64 x0), (2, .int .i64 x2)]) S tys tys_ok 1 (by kernel_rfl) ?_; clear S; intro a S
                    refine wpList_nil ?_
                    exact RPost.mk_ S rfl S0 ⟨rfl, G_55⟩ (Below.refl _ _)
                  refine RunAll.cons (isI .i64 x_71) [(isI .i64 x2, 56), (isI .i64 c_54, 57)] rfl rfl ?_ ?_
                  · intro W_ hW
                    have S1 := S
                    rintro _ ⟨rfl, hF_90⟩
                    replace S1 := S1.put (by decide : 56 < 109) (.int .i64 x2)
                    rintro _ ⟨rfl, hF_92⟩
                    replace S1 := S1.put (by decide : 57 < 109) (.int .i64 c_54)
                    refine fill_nil S1 ?_; clear S1; intro a_ S1
                    have S0 := S.defers; replace S := S1; clear S1
                    refine w_go S rfl (op_arith S .i64 (x2 + c_54) rfl (.inl rfl) rfl rfl rfl rfl ex_71 ?_)
                    clear S; intro a S
                    refine wpList_nil ?_
                    exact RPost.mk_ S rfl S0 ⟨rfl, (ckI_some ex_71).2.1⟩ (Below.refl _ _)
                  refine RunAll.cons (eqv (.bool t_72)) [(isI .i64 x0, 53), (isI .i64 y_68, 55), (isI .i64 x_71, 58)] rfl rfl ?_ ?_
                  · intro W_ hW
                    have S1 := S
                    rintro _ ⟨rfl, hF_94⟩
                    replace S1 := S1.put (by decide : 53 < 109) (.int .i64 x0)
                    rintro _ ⟨rfl, hF_96⟩
                    replace S1 := S1.put (by decide : 55 < 109) (.int .i64 y_68)
                    rintro _ ⟨rfl, hF_98⟩
                    replace S1 := S1.put (by decide : 58 < 109) (.int .i64 x_71)
                    refine fill_nil S1 ?_; clear S1; intro a_ S1
                    replace W := W.step hW
                    have S0 := S.defers; replace S := S1; clear S1
                    refine w_go S rfl (op_call (vs := [.int .i64 x0, .int .i64 y_68, .int .i64 x_71]) S rfl cb12 rfl rfl rfl (c12 (Kx K w.heap.size [some b_1]) n W_ x0 hF_94 y_68 hF_96 x_71 hF_98 et_72) ?_)
                    rintro _ w_103 ⟨v_100, rfl, R_101, hb_102⟩; refine ⟨_, rfl, ?_⟩
                    replace R_101 := RepV.back R_101 W
                    clear S; intro a S
                    obtain rfl := RepV.bool R_101
                    refine wpList_nil ?_
                    exact RPost.mk_ S rfl S0 rfl (hb_102)
                  refine RunAll.cons (isI .i64 x0) [] rfl rfl ?_ ?_
                  · intro W_ hW
                    have S1 := S
                    refine fill_nil S1 ?_; clear S1; intro a_ S1
                    have S0 := S.defers; replace S := S1; clear S1
                    refine wl_pure (l' := [(60, .int .i64 x0), (8, .int .i64 c_54), (7, .int .i64 c_56), (4, .pointer (some (⟨b_1, 0, .none⟩ : Addr))), (0, .int .i64 x0), (2, .int .i64 x2)]) S tys tys_ok 1 (by kernel_rfl) ?_; clear S; intro a S
                    refine wpList_nil ?_
                    exact RPost.mk_ S rfl S0 ⟨rfl, G0⟩ (Below.refl _ _)
                  refine RunAll.cons (eqv (.pointer (some ((⟨b_1, 0, .none⟩ : Addr).add ((1 : Int).toNat * GT.sz (.int .i64)))))) [] rfl rfl ?_ ?_
                  · intro W_ hW
                    have S1 := S
                    refine fill_nil S1 ?_; clear S1; intro a_ S1
                    replace B_2 := B_2.step hW
                    replace W := W.step hW
                    have S0 := S.defers; replace S := S1; clear S1
                    refine w_go S rfl (op_indexAddr_arr S rfl ty22 rfl rfl rfl B_2.at_ rfl ey_77 ?_)
                    clear S; intro a S
                    refine wpList_nil ?_
                    exact RPost.mk_ S rfl S0 rfl (Below.refl _ _)
                  refine RunAll.cons (isI .i64 y_77) [(eqv (.pointer (some ((⟨b_1, 0, .none⟩ : Addr).add ((1 : Int).toNat * GT.sz (.int .i64))))), 61)] rfl rfl ?_ ?_
                  · intro W_ hW
                    have S1 := S
                    intro v_105 hF_104; obtain rfl : .pointer (some ((⟨b_1, 0, .none⟩ : Addr).add ((1 : Int).toNat * GT.sz (.int .i64)))) = v_105 := Eq.symm hF_104
                    replace S1 := S1.put (by decide : 61 < 109) (.pointer (some ((⟨b_1, 0, .none⟩ : Addr).add ((1 : Int).toNat * GT.sz (.int .i64)))))
                    refine fill_nil S1 ?_; clear S1; intro a_ S1
                    replace B_2 := B_2.step hW
                    have S0 := S.defers; replace S := S1; clear S1
                    refine w_go S rfl (op_load (t := (.int .i64)) (x := y_77) S rfl ty3 rfl rfl rfl (RepAt.ix B_2.at_ ey_77) ?_)
                    clear S; intro a v_106 R_107 S
                    obtain ⟨rfl, GR_107⟩ := RepV.int R_107
                    refine wpList_nil ?_
                    exact RPost.mk_ S rfl S0 ⟨rfl, GR_107⟩ (Below.refl _ _)
                  refine RunAll.cons (isI .i64 x2) [] rfl rfl ?_ ?_
                  · intro W_ hW
                    have S1 := S
                    refine fill_nil S1 ?_; clear S1; intro a_ S1
                    have S0 := S.defers; replace S := S1; clear S1
                    refine wl_pure (l' := [(63, .int .i64 x2), (8, .int .i64 c_54), (7, .int .i64 c_56), (4, .pointer (some (⟨b_1, 0, .none⟩ : Addr))), (0, .int .i64 x0), (2, .int .i64 x2)]) S tys tys_ok 1 (by kernel_rfl) ?_; clear S; intro a S
                    refine wpList_nil ?_
                    exact RPost.mk_ S rfl S0 ⟨rfl, G2⟩ (Below.refl _ _)
                  refine RunAll.cons (isI .i64 c_54) [] rfl rfl ?_ ?_
                  · intro W_ hW
                    have S1 := S
                    refine fill_nil S1 ?_; clear S1; intro a_ S1
                    have S0 := S.defers; replace S := S1; clear S1
                    refine wl_pure (l' := [(64, .int .i64 c_54), (8, .int .i64 c_54), (7, .int .i64 c_56), (4, .pointer (some (⟨b_1, 0, .none⟩ : Addr))), (0, .int .i64 x0), (2, .int .i64 x2)]) S tys tys_ok 1 (by kernel_rfl) ?_; clear S; intro a S
                    refine wpList_nil ?_
                    exact RPost.mk_ S rfl S0 ⟨rfl, G_55⟩ (Below.refl _ _)
                  refine RunAll.cons (isI .i64 x_80) [(isI .i64 x2, 63), (isI .i64 c_54, 64)] rfl rfl ?_ ?_
                  · intro W_ hW
                    have S1 := S
                    rintro _ ⟨rfl, hF_108⟩
                    replace S1 := S1.put (by decide : 63 < 109) (.int .i64 x2)
                    rintro _ ⟨rfl, hF_110⟩
                    replace S1 := S1.put (by decide : 64 < 109) (.int .i64 c_54)
                    refine fill_nil S1 ?_; clear S1; intro a_ S1
                    have S0 := S.defers; replace S := S1; clear S1
                    refine w_go S rfl (op_arith S .i64 (x2 + c_54) rfl (.inl rfl) rfl rfl rfl rfl ex_80 ?_)
                    clear S; intro a S
                    refine wpList_nil ?_
                    exact RPost.mk_ S rfl S0 ⟨rfl, (ckI_some ex_80).2.1⟩ (Below.refl _ _)
                  refine RunAll.cons (eqv (.bool t_81)) [(isI .i64 x0, 60), (isI .i64 y_77, 62), (isI .i64 x_80, 65)] rfl rfl ?_ ?_
                  · intro W_ hW
                    have S1 := S
                    rintro _ ⟨rfl, hF_112⟩
                    replace S1 := S1.put (by decide : 60 < 109) (.int .i64 x0)
                    rintro _ ⟨rfl, hF_114⟩
                    replace S1 := S1.put (by decide : 62 < 109) (.int .i64 y_77)
                    rintro _ ⟨rfl, hF_116⟩
                    replace S1 := S1.put (by decide : 65 < 109) (.int .i64 x_80)
                    refine fill_nil S1 ?_; clear S1; intro a_ S1
                    replace W := W.step hW
                    have S0 := S.defers; replace S := S1; clear S1
                    refine w_go S rfl (op_call (vs := [.int .i64 x0, .int .i64 y_77, .int .i64 x_80]) S rfl cb12 rfl rfl rfl (c12 (Kx K w.heap.size [some b_1]) n W_ x0 hF_112 y_77 hF_114 x_80 hF_116 et_81) ?_)
                    rintro _ w_121 ⟨v_118, rfl, R_119, hb_120⟩; refine ⟨_, rfl, ?_⟩
                    replace R_119 := RepV.back R_119 W
                    clear S; intro a S
                    obtain rfl := RepV.bool R_119
                    refine wpList_nil ?_
                    exact RPost.mk_ S rfl S0 rfl (hb_120)
                  refine RunAll.cons (eqv (.bool t_72)) [(eqv (.bool t_72), 59)] rfl rfl ?_ ?_
                  · intro W_ hW
                    have S1 := S
                    intro v_123 hF_122; obtain rfl : .bool t_72 = v_123 := Eq.symm hF_122
                    replace S1 := S1.put (by decide : 59 < 109) (.bool t_72)
                    refine fill_nil S1 ?_; clear S1; intro a_ S1
                    have S0 := S.defers; replace S := S1; clear S1
                    refine wl_pure (l' := [(9, .bool t_72), (59, .bool t_72), (8, .int .i64 c_54), (7, .int .i64 c_56), (4, .pointer (some (⟨b_1, 0, .none⟩ : Addr))), (0, .int .i64 x0), (2, .int .i64 x2)]) S tys tys_ok 1 (by kernel_rfl) ?_; clear S; intro a S
                    refine wpList_nil ?_
                    exact RPost.mk_ S rfl S0 rfl (Below.refl _ _)
                  refine RunAll.cons (eqv (.bool t_81)) [(eqv (.bool t_81), 66)] rfl rfl ?_ ?_
                  · intro W_ hW
                    have S1 := S
                    intro v_125 hF_124; obtain rfl : .bool t_81 = v_125 := Eq.symm hF_124
                    replace S1 := S1.put (by decide : 66 < 109) (.bool t_81)
                    refine fill_nil S1 ?_; clear S1; intro a_ S1
                    have S0 := S.defers; replace S := S1; clear S1
                    refine wl_pure (l' := [(10, .bool t_81), (66, .bool t_81), (8, .int .i64 c_54), (7, .int .i64 c_56), (4, .pointer (some (⟨b_1, 0, .none⟩ : Addr))), (0, .int .i64 x0), (2, .int .i64 x2)]) S tys tys_ok 1 (by kernel_rfl) ?_; clear S; intro a S
                    refine wpList_nil ?_
                    exact RPost.mk_ S rfl S0 rfl (Below.refl _ _)
                  exact trivial
                intro w_126 hb_127
                refine EndE.some_ rfl ?_
                rintro _ ⟨rfl, hF_128⟩
                replace S := S.put (by decide : 53 < 109) (.int .i64 x0)
                refine EndE.some_ rfl ?_
                intro v_131 hF_130; obtain rfl : .pointer (some ((⟨b_1, 0, .none⟩ : Addr).add ((0 : Int).toNat * GT.sz (.int .i64)))) = v_131 := Eq.symm hF_130
                replace S := S.put (by decide : 54 < 109) (.pointer (some ((⟨b_1, 0, .none⟩ : Addr).add ((0 : Int).toNat * GT.sz (.int .i64)))))
                refine EndE.some_ rfl ?_
                rintro _ ⟨rfl, hF_132⟩
                replace S := S.put (by decide : 55 < 109) (.int .i64 y_68)
                refine EndE.some_ rfl ?_
                rintro _ ⟨rfl, hF_134⟩
                replace S := S.put (by decide : 56 < 109) (.int .i64 x2)
                refine EndE.some_ rfl ?_
                rintro _ ⟨rfl, hF_136⟩
                replace S := S.put (by decide : 57 < 109) (.int .i64 c_54)
                refine EndE.some_ rfl ?_
                rintro _ ⟨rfl, hF_138⟩
                replace S := S.put (by decide : 58 < 109) (.int .i64 x_71)
                refine EndE.some_ rfl ?_
                intro v_141 hF_140; obtain rfl : .bool t_72 = v_141 := Eq.symm hF_140
                replace S := S.put (by decide : 59 < 109) (.bool t_72)
                refine EndE.some_ rfl ?_
                rintro _ ⟨rfl, hF_142⟩
                replace S := S.put (by decide : 60 < 109) (.int .i64 x0)
                refine EndE.some_ rfl ?_
                intro v_145 hF_144; obtain rfl : .pointer (some ((⟨b_1, 0, .none⟩ : Addr).add ((1 : Int).toNat * GT.sz (.int .i64)))) = v_145 := Eq.symm hF_144
                replace S := S.put (by decide : 61 < 109) (.pointer (some ((⟨b_1, 0, .none⟩ : Addr).add ((1 : Int).toNat * GT.sz (.int .i64)))))
                refine EndE.some_ rfl ?_
                rintro _ ⟨rfl, hF_146⟩
                replace S := S.put (by decide : 62 < 109) (.int .i64 y_77)
                refine EndE.some_ rfl ?_
                rintro _ ⟨rfl, hF_148⟩
                replace S := S.put (by decide : 63 < 109) (.int .i64 x2)
                refine EndE.some_ rfl ?_
                rintro _ ⟨rfl, hF_150⟩
                replace S := S.put (by decide : 64 < 109) (.int .i64 c_54)
                refine EndE.some_ rfl ?_
                rintro _ ⟨rfl, hF_152⟩
                replace S := S.put (by decide : 65 < 109) (.int .i64 x_80)
                refine EndE.some_ rfl ?_
                intro v_155 hF_154; obtain rfl : .bool t_81 = v_155 := Eq.symm hF_154
                replace S := S.put (by decide : 66 < 109) (.bool t_81)
                refine EndE.some_ rfl ?_
                intro v_157 hF_156; obtain rfl : .bool t_72 = v_157 := Eq.symm hF_156
                replace S := S.put (by decide : 9 < 109) (.bool t_72)
                refine EndE.some_ rfl ?_
                intro v_159 hF_158; obtain rfl : .bool t_81 = v_159 := Eq.symm hF_158
                replace S := S.put (by decide : 10 < 109) (.bool t_81)
                refine endE_nil S ?_; clear S; intro a S
                replace B_2 := B_2.step hb_127
                replace W := W.step hb_127
                refine then_n ?_
                replace S := S.sub (l' := [(10, .bool t_81), (9, .bool t_72), (8, .int .i64 c_54), (7, .int .i64 c_56), (4, .pointer (some (⟨b_1, 0, .none⟩ : Addr))), (0, .int .i64 x0), (2, .int .i64 x2)]) (by exact ⟨rfl, rfl, rfl, rfl, rfl, rfl, rfl, trivial⟩)
                refine wp_seq ?_
                refine wp_seq ?_
                obtain ⟨x_160, ex_160, hl_66⟩ := bindS hl_66
                obtain ⟨x_161, ex_161, hl_66⟩ := bindS hl_66
                obtain ⟨y_162, ey_162, hl_66⟩ := bindS hl_66
                obtain ⟨q_165, eq_165, hl_66⟩ := bindS hl_66
                obtain ⟨q_167, q_169, HG_166⟩ : ∃ (q_167 : Bool) (q_169 : Bool) , ((!(t_72 == (x_161 == y_162))) = false → (if t_72 = true then some t_81 else some false) = some q_167 ∧ (if q_167 = true then (idx x1 0).bind fun y_171 => (idx x1 1).bind fun y_174 => some (y_171 != y_174) else some false) = some q_169 ∧ q_169 = q_165) ∧ (¬ (!(t_72 == (x_161 == y_162))) = false → true = q_165) := by
                  by_cases hc : (!(t_72 == (x_161 == y_162))) = false
                  · rw [if_pos hc] at eq_165
                    obtain ⟨q_167, eq_167, eq_165⟩ := bindS eq_165
                    obtain ⟨q_169, eq_169, eq_165⟩ := bindS eq_165
                    exact ⟨q_167, q_169, ⟨fun _ => ⟨eq_167, eq_169, Option.some.inj eq_165⟩, fun k_ => absurd hc k_⟩⟩
                  · rw [if_neg hc] at eq_165
                    exact ⟨default, default, ⟨fun k_ => absurd k_ hc, fun _ => Option.some.inj eq_165⟩⟩
                have HG_168 : ((!(t_72 == (x_161 == y_162))) = false → (t_72 = true → t_81 = q_167) ∧ (¬ t_72 = true → false = q_167)) := by
                  by_cases ho0 : (!(t_72 == (x_161 == y_162))) = false
                  · skip
                    have eq_167 := (HG_166.1 ho0).1
                    by_cases hc : t_72 = true
                    · rw [if_pos hc] at eq_167
                      exact fun _ => ⟨fun _ => Option.some.inj eq_167, fun k_ => absurd hc k_⟩
                    · rw [if_neg hc] at eq_167
                      exact fun _ => ⟨fun k_ => absurd k_ hc, fun _ => Option.some.inj eq_167⟩
                  · exact fun k_ => absurd k_ ho0
                obtain ⟨y_171, y_174, HG_170⟩ : ∃ (y_171 : Int) (y_174 : Int) , ((!(t_72 == (x_161 == y_162))) = false → (q_167 = true → (idx x1 0) = some y_171 ∧ (idx x1 1) = some y_174 ∧ (y_171 != y_174) = q_169) ∧ (¬ q_167 = true → false = q_169)) := by
                  by_cases ho0 : (!(t_72 == (x_161 == y_162))) = false
                  · skip
                    have eq_169 := (HG_166.1 ho0).2.1
                    by_cases hc : q_167 = true
                    · rw [if_pos hc] at eq_169
                      obtain ⟨y_171, ey_171, eq_169⟩ := bindS eq_169
                      obtain ⟨y_174, ey_174, eq_169⟩ := bindS eq_169
                      exact ⟨y_171, y_174, fun _ => ⟨fun _ => ⟨ey_171, ey_174, Option.some.inj eq_169⟩, fun k_ => absurd hc k_⟩⟩
                    · rw [if_neg hc] at eq_169
                      exact ⟨default, default, fun _ => ⟨fun k_ => absurd k_ hc, fun _ => Option.some.inj eq_169⟩⟩
                  · exact ⟨default, default, fun k_ => absurd k_ ho0⟩
                have hR : Rel (Kx K w.heap.size [some b_1]) Bl := Bl.rel _
                refine wp_region_all hR [eqv (.bool t_72), isI .i64 x2, isI .i64 c_54, isI .i64 x_160, isI .i64 x0, isI .i64 x_161, eqv (.pointer (some ((⟨b_1, 0, .none⟩ : Addr).add ((0 : Int).toNat * GT.sz (.int .i64))))), isI .i64 y_162, eqv (.bool (x_161 == y_162)), eqv (.bool (!(t_72 == (x_161 == y_162)))), eqv (.bool (!(t_72 == (x_161 == y_162)))), cndF (!(t_72 == (x_161 == y_162))) false (eqv (.bool t_72)), cndF (!(t_72 == (x_161 == y_162))) false (eqv (.bool t_72)), cndF (!(t_72 == (x_161 == y_162))) false (cndF t_72 true (eqv (.bool t_81))), cndF (!(t_72 == (x_161 == y_162))) false (eqv (.bool q_167)), cndF (!(t_72 == (x_161 == y_162))) false (eqv (.bool q_167)), cndF (!(t_72 == (x_161 == y_162))) false (cndF q_167 true (eqv (.pointer (some ((⟨b_1, 0, .none⟩ : Addr).add ((0 : Int).toNat * GT.sz (.int .i64))))))), cndF (!(t_72 == (x_161 == y_162))) false (cndF q_167 true (isI .i64 y_171)), cndF (!(t_72 == (x_161 == y_162))) false (cndF q_167 true (eqv (.pointer (some ((⟨b_1, 0, .none⟩ : Addr).add ((1 : Int).toNat * GT.sz (.int .i64))))))), cndF (!(t_72 == (x_161 == y_162))) false (cndF q_167 true (isI .i64 y_174)), cndF (!(t_72 == (x_161 == y_162))) false (cndF q_167 true (eqv (.bool (y_171 != y_174)))), cndF (!(t_72 == (x_161 == y_162))) false (eqv (.bool q_169)), eqv (.bool q_165)] [[], [], [], [(1, 68), (2, 69)], [], [(3, 70), (4, 71)], [], [(6, 73)], [(5, 72), (7, 74)], [(0, 67), (8, 75)], [(9, 76)], [(10, 77)], [(11, 78), (10, 77)], [(12, 79)], [(12, 79), (13, 80), (10, 77)], [(14, 81), (10, 77)], [(15, 82)], [(16, 83), (15, 82)], [(15, 82)], [(18, 85), (15, 82)], [(17, 84), (19, 86), (15, 82)], [(15, 82), (20, 87), (10, 77)], [(10, 77), (21, 88)]] (by kernel_rfl) (by rw [S.size]; kernel_rfl) (by kernel_rfl) (by kernel_rfl) rfl ⟨(stab_eqv _), stab_I, stab_I, stab_I, stab_I, stab_I, (stab_eqv _), stab_I, (stab_eqv _), (stab_eqv _), (stab_eqv _), (stab_cnd (stab_eqv _)), (stab_cnd (stab_eqv _)), (stab_cnd (stab_cnd (stab_eqv _))), (stab_cnd (stab_eqv _)), (stab_cnd (stab_eqv _)), (stab_cnd (stab_cnd (stab_eqv _))), (stab_cnd (stab_cnd stab_I)), (stab_cnd (stab_cnd (stab_eqv _))), (stab_cnd (stab_cnd stab_I)), (stab_cnd (stab_cnd (stab_eqv _))), (stab_cnd (stab_eqv _)), (stab_eqv _), trivial⟩ ?_ ?_
                ·
                  refine RunAll.cons (eqv (.bool t_72)) [] rfl rfl ?_ ?_
                  · intro W_ hW
                    have S1 := S
                    refine fill_nil S1 ?_; clear S1; intro a_ S1
                    have S0 := S.defers; replace S := S1; clear S1
                    refine wl_pure (l' := [(67, .bool t_72), (10, .bool t_81), (9, .bool t_72), (8, .int .i64 c_54), (7, .int .i64 c_56), (4, .pointer (some (⟨b_1, 0, .none⟩ : Addr))), (0, .int .i64 x0), (2, .int .i64 x2)]) S tys tys_ok 1 (by kernel_rfl) ?_; clear S; intro a S
                    refine wpList_nil ?_
                    exact RPost.mk_ S rfl S0 rfl (Below.refl _ _)
                  refine RunAll.cons (isI .i64 x2) [] rfl rfl ?_ ?_
                  · intro W_ hW
                    have S1 := S
                    refine fill_nil S1 ?_; clear S1; intro a_ S1
                    have S0 := S.defers; replace S := S1; clear S1
                    refine wl_pure (l' := [(68, .int .i64 x2), (10, .bool t_81), (9, .bool t_72), (8, .int .i64 c_54), (7, .int .i64 c_56), (4, .pointer (some (⟨b_1, 0, .none⟩ : Addr))), (0, .int .i64 x0), (2, .int .i64 x2)]) S tys tys_ok 1 (by kernel_rfl) ?_; clear S; intro a S
                    refine wpList_nil ?_
                    exact RPost.mk_ S rfl S0 ⟨rfl, G2⟩ (Below.refl _ _)
                  refine RunAll.cons (isI .i64 c_54) [] rfl rfl ?_ ?_
                  · intro W_ hW
                    have S1 := S
                    refine fill_nil S1 ?_; clear S1; intro a_ S1
                    have S0 := S.defers; replace S := S1; clear S1
                    refine wl_pure (l' := [(69, .int .i64 c_54), (10, .bool t_81), (9, .bool t_72), (8, .int .i64 c_54), (7, .int .i64 c_56), (4, .pointer (some (⟨b_1, 0, .none⟩ : Addr))), (0, .int .i64 x0), (2, .int .i64 x2)]) S tys tys_ok 1 (by kernel_rfl) ?_; clear S; intro a S
                    refine wpList_nil ?_
                    exact RPost.mk_ S rfl S0 ⟨rfl, G_55⟩ (Below.refl _ _)
                  refine RunAll.cons (isI .i64 x_160) [(isI .i64 x2, 68), (isI .i64 c_54, 69)] rfl rfl ?_ ?_
                  · intro W_ hW
                    have S1 := S
                    rintro _ ⟨rfl, hF_177⟩
                    replace S1 := S1.put (by decide : 68 < 109) (.int .i64 x2)
                    rintro _ ⟨rfl, hF_179⟩
                    replace S1 := S1.put (by decide : 69 < 109) (.int .i64 c_54)
                    refine fill_nil S1 ?_; clear S1; intro a_ S1
                    have S0 := S.defers; replace S := S1; clear S1
                    refine w_go S rfl (op_arith S .i64 (x2 + c_54) rfl (.inl rfl) rfl rfl rfl rfl ex_160 ?_)
                    clear S; intro a S
                    refine wpList_nil ?_
                    exact RPost.mk_ S rfl S0 ⟨rfl, (ckI_some ex_160).2.1⟩ (Below.refl _ _)
                  refine RunAll.cons (isI .i64 x0) [] rfl rfl ?_ ?_
                  · intro W_ hW
                    have S1 := S
                    refine fill_nil S1 ?_; clear S1; intro a_ S1
                    have S0 := S.defers; replace S := S1; clear S1
                    refine wl_pure (l' := [(71, .int .i64 x0), (10, .bool t_81), (9, .bool t_72), (8, .int .i64 c_54), (7, .int .i64 c_56), (4, .pointer (some (⟨b_1, 0, .none⟩ : Addr))), (0, .int .i64 x0), (2, .int .i64 x2)]) S tys tys_ok 1 (by kernel_rfl) ?_; clear S; intro a S
                    refine wpList_nil ?_
                    exact RPost.mk_ S rfl S0 ⟨rfl, G0⟩ (Below.refl _ _)
                  refine RunAll.cons (isI .i64 x_161) [(isI .i64 x_160, 70), (isI .i64 x0, 71)] rfl rfl ?_ ?_
                  · intro W_ hW
                    have S1 := S
                    rintro _ ⟨rfl, hF_181⟩
                    replace S1 := S1.put (by decide : 70 < 109) (.int .i64 x_160)
                    rintro _ ⟨rfl, hF_183⟩
                    replace S1 := S1.put (by decide : 71 < 109) (.int .i64 x0)
                    refine fill_nil S1 ?_; clear S1; intro a_ S1
                    have S0 := S.defers; replace S := S1; clear S1
                    refine w_go S rfl (op_rem S .i64 rfl rfl rfl rfl rfl ex_161 ?_)
                    clear S; intro a S
                    refine wpList_nil ?_
                    exact RPost.mk_ S rfl S0 ⟨rfl, (inR_rem ex_161)⟩ (Below.refl _ _)
                  refine RunAll.cons (eqv (.pointer (some ((⟨b_1, 0, .none⟩ : Addr).add ((0 : Int).toNat * GT.sz (.int .i64)))))) [] rfl rfl ?_ ?_
                  · intro W_ hW
                    have S1 := S
                    refine fill_nil S1 ?_; clear S1; intro a_ S1
                    replace B_2 := B_2.step hW
                    replace W := W.step hW
                    have S0 := S.defers; replace S := S1; clear S1
                    refine w_go S rfl (op_indexAddr_arr S rfl ty22 rfl rfl rfl B_2.at_ rfl ey_162 ?_)
                    clear S; intro a S
                    refine wpList_nil ?_
                    exact RPost.mk_ S rfl S0 rfl (Below.refl _ _)
                  refine RunAll.cons (isI .i64 y_162) [(eqv (.pointer (some ((⟨b_1, 0, .none⟩ : Addr).add ((0 : Int).toNat * GT.sz (.int .i64))))), 73)] rfl rfl ?_ ?_
                  · intro W_ hW
                    have S1 := S
                    intro v_186 hF_185; obtain rfl : .pointer (some ((⟨b_1, 0, .none⟩ : Addr).add ((0 : Int).toNat * GT.sz (.int .i64)))) = v_186 := Eq.symm hF_185
                    replace S1 := S1.put (by decide : 73 < 109) (.pointer (some ((⟨b_1, 0, .none⟩ : Addr).add ((0 : Int).toNat * GT.sz (.int .i64)))))
                    refine fill_nil S1 ?_; clear S1; intro a_ S1
                    replace B_2 := B_2.step hW
                    have S0 := S.defers; replace S := S1; clear S1
                    refine w_go S rfl (op_load (t := (.int .i64)) (x := y_162) S rfl ty3 rfl rfl rfl (RepAt.ix B_2.at_ ey_162) ?_)
                    clear S; intro a v_187 R_188 S
                    obtain ⟨rfl, GR_188⟩ := RepV.int R_188
                    refine wpList_nil ?_
                    exact RPost.mk_ S rfl S0 ⟨rfl, GR_188⟩ (Below.refl _ _)
                  refine RunAll.cons (eqv (.bool (x_161 == y_162))) [(isI .i64 x_161, 72), (isI .i64 y_162, 74)] rfl rfl ?_ ?_
                  · intro W_ hW
                    have S1 := S
                    rintro _ ⟨rfl, hF_189⟩
                    replace S1 := S1.put (by decide : 72 < 109) (.int .i64 x_161)
                    rintro _ ⟨rfl, hF_191⟩
                    replace S1 := S1.put (by decide : 74 < 109) (.int .i64 y_162)
                    refine fill_nil S1 ?_; clear S1; intro a_ S1
                    have S0 := S.defers; replace S := S1; clear S1
                    refine wl_pure (l' := [(75, .bool (x_161 == y_162)), (74, .int .i64 y_162), (72, .int .i64 x_161), (10, .bool t_81), (9, .bool t_72), (8, .int .i64 c_54), (7, .int .i64 c_56), (4, .pointer (some (⟨b_1, 0, .none⟩ : Addr))), (0, .int .i64 x0), (2, .int .i64 x2)]) S tys tys_ok 1 (by kernel_rfl) ?_; clear S; intro a S
                    refine wpList_nil ?_
                    exact RPost.mk_ S rfl S0 rfl (Below.refl _ _)
                  refine RunAll.cons (eqv (.bool (!(t_72 == (x_161 == y_162))))) [(eqv (.bool t_72), 67), (eqv (.bool (x_161 == y_162)), 75)] rfl rfl ?_ ?_
                  · intro W_ hW
                    have S1 := S
                    intro v_194 hF_193; obtain rfl : .bool t_72 = v_194 := Eq.symm hF_193
                    replace S1 := S1.put (by decide : 67 < 109) (.bool t_72)
                    intro v_196 hF_195; obtain rfl : .bool (x_161 == y_162) = v_196 := Eq.symm hF_195
                    replace S1 := S1.put (by decide : 75 < 109) (.bool (x_161 == y_162))
                    refine fill_nil S1 ?_; clear S1; intro a_ S1
                    have S0 := S.defers; replace S := S1; clear S1
                    refine wl_pure (l' := [(76, .bool (!(t_72 == (x_161 == y_162)))), (75, .bool (x_161 == y_162)), (67, .bool t_72), (10, .bool t_81), (9, .bool t_72), (8, .int .i64 c_54), (7, .int .i64 c_56), (4, .pointer (some (⟨b_1, 0, .none⟩ : Addr))), (0, .int .i64 x0), (2, .int .i64 x2)]) S tys tys_ok 1 (by kernel_rfl) ?_; clear S; intro a S
                    refine wpList_nil ?_
                    exact RPost.mk_ S rfl S0 rfl (Below.refl _ _)
                  refine RunAll.cons (eqv (.bool (!(t_72 == (x_161 == y_162))))) [(eqv (.bool (!(t_72 == (x_161 == y_162)))), 76)] rfl rfl ?_ ?_
                  · intro W_ hW
                    have S1 := S
                    intro v_198 hF_197; obtain rfl : .bool (!(t_72 == (x_161 == y_162))) = v_198 := Eq.symm hF_197
                    replace S1 := S1.put (by decide : 76 < 109) (.bool (!(t_72 == (x_161 == y_162))))
                    refine fill_nil S1 ?_; clear S1; intro a_ S1
                    have S0 := S.defers; replace S := S1; clear S1
                    refine wl_pure (l' := [(77, .bool (!(t_72 == (x_161 == y_162)))), (76, .bool (!(t_72 == (x_161 == y_162)))), (10, .bool t_81), (9, .bool t_72), (8, .int .i64 c_54), (7, .int .i64 c_56), (4, .pointer (some (⟨b_1, 0, .none⟩ : Addr))), (0, .int .i64 x0), (2, .int .i64 x2)]) S tys tys_ok 1 (by kernel_rfl) ?_; clear S; intro a S
                    refine wpList_nil ?_
                    exact RPost.mk_ S rfl S0 rfl (Below.refl _ _)
                  refine RunAll.cons (cndF (!(t_72 == (x_161 == y_162))) false (eqv (.bool t_72))) [(eqv (.bool (!(t_72 == (x_161 == y_162)))), 77)] rfl rfl ?_ ?_
                  · intro W_ hW
                    by_cases hc0 : (!(t_72 == (x_161 == y_162))) = false
                    · have hl0 : (!(t_72 == (x_161 == y_162))) = false := hc0
                      have S1 := S
                      intro v_200 hF_199; obtain rfl : .bool (!(t_72 == (x_161 == y_162))) = v_200 := Eq.symm hF_199
                      replace S1 := S1.put (by decide : 77 < 109) (.bool (!(t_72 == (x_161 == y_162))))
                      refine fill_nil S1 ?_; clear S1; intro a_ S1
                      rw [show (!(t_72 == (x_161 == y_162))) = false from hl0] at S1
                      have S0 := S.defers; replace S := S1; clear S1
                      refine wl_pure (l' := [(78, .bool t_72), (77, .bool false), (10, .bool t_81), (9, .bool t_72), (8, .int .i64 c_54), (7, .int .i64 c_56), (4, .pointer (some (⟨b_1, 0, .none⟩ : Addr))), (0, .int .i64 x0), (2, .int .i64 x2)]) S tys tys_ok 1 (by kernel_rfl) ?_; clear S; intro a S
                      refine wpList_nil ?_
                      exact RPost.mk_ S rfl S0 ⟨fun _ => rfl, fun k_ => absurd hc0 k_⟩ (Below.refl _ _)
                    · have hl0 : (!(t_72 == (x_161 == y_162))) = true := (by simpa using hc0)
                      have S1 := S
                      intro v_202 hF_201; obtain rfl : .bool (!(t_72 == (x_161 == y_162))) = v_202 := Eq.symm hF_201
                      replace S1 := S1.put (by decide : 77 < 109) (.bool (!(t_72 == (x_161 == y_162))))
                      refine fill_nil S1 ?_; clear S1; intro a_ S1
                      rw [show (!(t_72 == (x_161 == y_162))) = true from hl0] at S1
                      have S0 := S.defers; replace S := S1; clear S1
                      refine wl_pure (l' := [(78, undef), (77, .bool true), (10, .bool t_81), (9, .bool t_72), (8, .int .i64 c_54), (7, .int .i64 c_56), (4, .pointer (some (⟨b_1, 0, .none⟩ : Addr))), (0, .int .i64 x0), (2, .int .i64 x2)]) S tys tys_ok 1 (by kernel_rfl) ?_; clear S; intro a S
                      refine wpList_nil ?_
                      exact RPost.mk_ S rfl S0 ⟨fun k_ => absurd k_ hc0, fun _ => rfl⟩ (Below.refl _ _)
                  refine RunAll.cons (cndF (!(t_72 == (x_161 == y_162))) false (eqv (.bool t_72))) [(cndF (!(t_72 == (x_161 == y_162))) false (eqv (.bool t_72)), 78), (eqv (.bool (!(t_72 == (x_161 == y_162)))), 77)] rfl rfl ?_ ?_
                  · intro W_ hW
                    by_cases hc0 : (!(t_72 == (x_161 == y_162))) = false
                    · have hl0 : (!(t_72 == (x_161 == y_162))) = false := hc0
                      have S1 := S
                      intro v_203 hF_204
                      replace hF_204 := cndF.pos hF_204 hc0
                      revert hF_204
                      revert v_203
                      intro v_206 hF_205; obtain rfl : .bool t_72 = v_206 := Eq.symm hF_205
                      replace S1 := S1.put (by decide : 78 < 109) (.bool t_72)
                      intro v_208 hF_207; obtain rfl : .bool (!(t_72 == (x_161 == y_162))) = v_208 := Eq.symm hF_207
                      replace S1 := S1.put (by decide : 77 < 109) (.bool (!(t_72 == (x_161 == y_162))))
                      refine fill_nil S1 ?_; clear S1; intro a_ S1
                      rw [show (!(t_72 == (x_161 == y_162))) = false from hl0] at S1
                      have S0 := S.defers; replace S := S1; clear S1
                      refine wl_pure (l' := [(79, .bool t_72), (77, .bool false), (78, .bool t_72), (10, .bool t_81), (9, .bool t_72), (8, .int .i64 c_54), (7, .int .i64 c_56), (4, .pointer (some (⟨b_1, 0, .none⟩ : Addr))), (0, .int .i64 x0), (2, .int .i64 x2)]) S tys tys_ok 1 (by kernel_rfl) ?_; clear S; intro a S
                      refine wpList_nil ?_
                      exact RPost.mk_ S rfl S0 ⟨fun _ => rfl, fun k_ => absurd hc0 k_⟩ (Below.refl _ _)
                    · have hl0 : (!(t_72 == (x_161 == y_162))) = true := (by simpa using hc0)
                      have S1 := S
                      intro v_209 hF_210
                      obtain rfl := cndF.neg hF_210 hc0
                      replace S1 := S1.put (by decide : 78 < 109) (undef)
                      intro v_212 hF_211; obtain rfl : .bool (!(t_72 == (x_161 == y_162))) = v_212 := Eq.symm hF_211
                      replace S1 := S1.put (by decide : 77 < 109) (.bool (!(t_72 == (x_161 == y_162))))
                      refine fill_nil S1 ?_; clear S1; intro a_ S1
                      rw [show (!(t_72 == (x_161 == y_162))) = true from hl0] at S1
                      have S0 := S.defers; replace S := S1; clear S1
                      refine wl_pure (l' := [(79, undef), (77, .bool true), (78, undef), (10, .bool t_81), (9, .bool t_72), (8, .int .i64 c_54), (7, .int .i64 c_56), (4, .pointer (some (⟨b_1, 0, .none⟩ : Addr))), (0, .int .i64 x0), (2, .int .i64 x2)]) S tys tys_ok 1 (by kernel_rfl) ?_; clear S; intro a S
                      refine wpList_nil ?_
                      exact RPost.mk_ S rfl S0 ⟨fun k_ => absurd k_ hc0, fun _ => rfl⟩ (Below.refl _ _)
                  refine RunAll.cons (cndF (!(t_72 == (x_161 == y_162))) false (cndF t_72 true (eqv (.bool t_81)))) [(cndF (!(t_72 == (x_161 == y_162))) false (eqv (.bool t_72)), 79)] rfl rfl ?_ ?_
                  · intro W_ hW
                    by_cases hc0 : (!(t_72 == (x_161 == y_162))) = false
                    · have hl0 : (!(t_72 == (x_161 == y_162))) = false := hc0
                      by_cases hc1 : t_72 = true
                      · have hl1 : t_72 = true := hc1
                        have S1 := S
                        intro v_213 hF_214
                        replace hF_214 := cndF.pos hF_214 hc0
                        revert hF_214
                        revert v_213
                        intro v_216 hF_215; obtain rfl : .bool t_72 = v_216 := Eq.symm hF_215
                        replace S1 := S1.put (by decide : 79 < 109) (.bool t_72)
                        refine fill_nil S1 ?_; clear S1; intro a_ S1
                        rw [show t_72 = true from hl1] at S1
                        have S0 := S.defers; replace S := S1; clear S1
                        refine wl_pure (l' := [(80, .bool t_81), (79, .bool true), (10, .bool t_81), (9, .bool true), (8, .int .i64 c_54), (7, .int .i64 c_56), (4, .pointer (some (⟨b_1, 0, .none⟩ : Addr))), (0, .int .i64 x0), (2, .int .i64 x2)]) S tys tys_ok 1 (by kernel_rfl) ?_; clear S; intro a S
                        refine wpList_nil ?_
                        exact RPost.mk_ S rfl S0 ⟨fun _ => ⟨fun _ => rfl, fun k_ => absurd hc1 k_⟩, fun k_ => absurd hc0 k_⟩ (Below.refl _ _)
                      · have hl1 : t_72 = false := Bool.eq_false_iff.2 hc1
                        have S1 := S
                        intro v_217 hF_218
                        replace hF_218 := cndF.pos hF_218 hc0
                        revert hF_218
                        revert v_217
                        intro v_220 hF_219; obtain rfl : .bool t_72 = v_220 := Eq.symm hF_219
                        replace S1 := S1.put (by decide : 79 < 109) (.bool t_72)
                        refine fill_nil S1 ?_; clear S1; intro a_ S1
                        rw [show t_72 = false from hl1] at S1
                        have S0 := S.defers; replace S := S1; clear S1
                        refine wl_pure (l' := [(80, undef), (79, .bool false), (10, .bool t_81), (9, .bool false), (8, .int .i64 c_54), (7, .int .i64 c_56), (4, .pointer (some (⟨b_1, 0, .none⟩ : Addr))), (0, .int .i64 x0), (2, .int .i64 x2)]) S tys tys_ok 1 (by kernel_rfl) ?_; clear S; intro a S
                        refine wpList_nil ?_
                        exact RPost.mk_ S rfl S0 ⟨fun _ => ⟨fun k_ => absurd k_ hc1, fun _ => rfl⟩, fun k_ => absurd hc0 k_⟩ (Below.refl _ _)
                    · have hl0 : (!(t_72 == (x_161 == y_162))) = true := (by simpa using hc0)
                      have S1 := S
                      intro v_221 hF_222
                      obtain rfl := cndF.neg hF_222 hc0
                      replace S1 := S1.put (by decide : 79 < 109) (undef)
                      refine fill_nil S1 ?_; clear S1; intro a_ S1
                      have S0 := S.defers; replace S := S1; clear S1
                      refine wl_pure (l' := [(80, undef), (79, undef), (10, .bool t_81), (9, .bool t_72), (8, .int .i64 c_54), (7, .int .i64 c_56), (4, .pointer (some (⟨b_1, 0, .none⟩ : Addr))), (0, .int .i64 x0), (2, .int .i64 x2)]) S tys tys_ok 1 (by kernel_rfl) ?_; clear S; intro a S
                      refine wpList_nil ?_
                      exact RPost.mk_ S rfl S0 ⟨fun k_ => absurd k_ hc0, fun _ => rfl⟩ (Below.refl _ _)
                  refine RunAll.cons (cndF (!(t_72 == (x_161 == y_162))) false (eqv (.bool q_167))) [(cndF (!(t_72 == (x_161 == y_162))) false (eqv (.bool t_72)), 79), (cndF (!(t_72 == (x_161 == y_162))) false (cndF t_72 true (eqv (.bool t_81))), 80), (eqv (.bool (!(t_72 == (x_161 == y_162)))), 77)] rfl rfl ?_ ?_
                  · intro W_ hW
                    by_cases hc0 : (!(t_72 == (x_161 == y_162))) = false
                    · have hl0 : (!(t_72 == (x_161 == y_162))) = false := hc0
                      by_cases hc1 : t_72 = true
                      · have hl1 : t_72 = true := hc1
                        have S1 := S
                        intro v_223 hF_224
                        replace hF_224 := cndF.pos hF_224 hc0
                        revert hF_224
                        revert v_223
                        intro v_226 hF_225; obtain rfl : .bool t_72 = v_226 := Eq.symm hF_225
                        replace S1 := S1.put (by decide : 79 < 109) (.bool t_72)
                        intro v_227 hF_228
                        replace hF_228 := cndF.pos hF_228 hc0
                        replace hF_228 := cndF.pos hF_228 hc1
                        revert hF_228
                        revert v_227
                        intro v_230 hF_229; obtain rfl : .bool t_81 = v_230 := Eq.symm hF_229
                        replace S1 := S1.put (by decide : 80 < 109) (.bool t_81)
                        intro v_232 hF_231; obtain rfl : .bool (!(t_72 == (x_161 == y_162))) = v_232 := Eq.symm hF_231
                        replace S1 := S1.put (by decide : 77 < 109) (.bool (!(t_72 == (x_161 == y_162))))
                        refine fill_nil S1 ?_; clear S1; intro a_ S1
                        rw [show (!(t_72 == (x_161 == y_162))) = false from hl0] at S1
                        rw [show t_72 = true from hl1] at S1
                        have S0 := S.defers; replace S := S1; clear S1
                        refine wl_pure (l' := [(81, .bool t_81), (77, .bool false), (80, .bool t_81), (79, .bool true), (10, .bool t_81), (9, .bool true), (8, .int .i64 c_54), (7, .int .i64 c_56), (4, .pointer (some (⟨b_1, 0, .none⟩ : Addr))), (0, .int .i64 x0), (2, .int .i64 x2)]) S tys tys_ok 1 (by kernel_rfl) ?_; clear S; intro a S
                        refine wpList_nil ?_
                        exact RPost.mk_ S rfl S0 ⟨fun _ => (congrArg Value.bool ((HG_168 hc0).1 hc1)), fun k_ => absurd hc0 k_⟩ (Below.refl _ _)
                      · have hl1 : t_72 = false := Bool.eq_false_iff.2 hc1
                        have S1 := S
                        intro v_233 hF_234
                        replace hF_234 := cndF.pos hF_234 hc0
                        revert hF_234
                        revert v_233
                        intro v_236 hF_235; obtain rfl : .bool t_72 = v_236 := Eq.symm hF_235
                        replace S1 := S1.put (by decide : 79 < 109) (.bool t_72)
                        intro v_237 hF_238
                        replace hF_238 := cndF.pos hF_238 hc0
                        obtain rfl := cndF.neg hF_238 hc1
                        replace S1 := S1.put (by decide : 80 < 109) (undef)
                        intro v_240 hF_239; obtain rfl : .bool (!(t_72 == (x_161 == y_162))) = v_240 := Eq.symm hF_239
                        replace S1 := S1.put (by decide : 77 < 109) (.bool (!(t_72 == (x_161 == y_162))))
                        refine fill_nil S1 ?_; clear S1; intro a_ S1
                        rw [show (!(t_72 == (x_161 == y_162))) = false from hl0] at S1
                        rw [show t_72 = false from hl1] at S1
                        have S0 := S.defers; replace S := S1; clear S1
                        refine wl_pure (l' := [(81, .bool false), (77, .bool false), (80, undef), (79, .bool false), (10, .bool t_81), (9, .bool false), (8, .int .i64 c_54), (7, .int .i64 c_56), (4, .pointer (some (⟨b_1, 0, .none⟩ : Addr))), (0, .int .i64 x0), (2, .int .i64 x2)]) S tys tys_ok 1 (by kernel_rfl) ?_; clear S; intro a S
                        refine wpList_nil ?_
                        exact RPost.mk_ S rfl S0 ⟨fun _ => (congrArg Value.bool ((HG_168 hc0).2 hc1)), fun k_ => absurd hc0 k_⟩ (Below.refl _ _)
                    · have hl0 : (!(t_72 == (x_161 == y_162))) = true := (by simpa using hc0)
                      have S1 := S
                      intro v_241 hF_242
                      obtain rfl := cndF.neg hF_242 hc0
                      replace S1 := S1.put (by decide : 79 < 109) (undef)
                      intro v_243 hF_244
                      obtain rfl := cndF.neg hF_244 hc0
                      replace S1 := S1.put (by decide : 80 < 109) (undef)
                      intro v_246 hF_245; obtain rfl : .bool (!(t_72 == (x_161 == y_162))) = v_246 := Eq.symm hF_245
                      replace S1 := S1.put (by decide : 77 < 109) (.bool (!(t_72 == (x_161 == y_162))))
                      refine fill_nil S1 ?_; clear S1; intro a_ S1
                      rw [show (!(t_72 == (x_161 == y_162))) = true from hl0] at S1
                      have S0 := S.defers; replace S := S1; clear S1
                      refine wl_pure (l' := [(81, undef), (77, .bool true), (80, undef), (79, undef), (10, .bool t_81), (9, .bool t_72), (8, .int .i64 c_54), (7, .int .i64 c_56), (4, .pointer (some (⟨b_1, 0, .none⟩ : Addr))), (0, .int .i64 x0), (2, .int .i64 x2)]) S tys tys_ok 1 (by kernel_rfl) ?_; clear S; intro a S
                      refine wpList_nil ?_
                      exact RPost.mk_ S rfl S0 ⟨fun k_ => absurd k_ hc0, fun _ => rfl⟩ (Below.refl _ _)
                  refine RunAll.cons (cndF (!(t_72 == (x_161 == y_162))) false (eqv (.bool q_167))) [(cndF (!(t_72 == (x_161 == y_162))) false (eqv (.bool q_167)), 81), (eqv (.bool (!(t_72 == (x_161 == y_162)))), 77)] rfl rfl ?_ ?_
                  · intro W_ hW
                    by_cases hc0 : (!(t_72 == (x_161 == y_162))) = false
                    · have hl0 : (!(t_72 == (x_161 == y_162))) = false := hc0
                      have S1 := S
                      intro v_247 hF_248
                      replace hF_248 := cndF.pos hF_248 hc0
                      revert hF_248
                      revert v_247
                      intro v_250 hF_249; obtain rfl : .bool q_167 = v_250 := Eq.symm hF_249
                      replace S1 := S1.put (by decide : 81 < 109) (.bool q_167)
                      intro v_252 hF_251; obtain rfl : .bool (!(t_72 == (x_161 == y_162))) = v_252 := Eq.symm hF_251
                      replace S1 := S1.put (by decide : 77 < 109) (.bool (!(t_72 == (x_161 == y_162))))
                      refine fill_nil S1 ?_; clear S1; intro a_ S1
                      rw [show (!(t_72 == (x_161 == y_162))) = false from hl0] at S1
                      have S0 := S.defers; replace S := S1; clear S1
                      refine wl_pure (l' := [(82, .bool q_167), (77, .bool false), (81, .bool q_167), (10, .bool t_81), (9, .bool t_72), (8, .int .i64 c_54), (7, .int .i64 c_56), (4, .pointer (some (⟨b_1, 0, .none⟩ : Addr))), (0, .int .i64 x0), (2, .int .i64 x2)]) S tys tys_ok 1 (by kernel_rfl) ?_; clear S; intro a S
                      refine wpList_nil ?_
                      exact RPost.mk_ S rfl S0 ⟨fun _ => rfl, fun k_ => absurd hc0 k_⟩ (Below.refl _ _)
                    · have hl0 : (!(t_72 == (x_161 == y_162))) = true := (by simpa using hc0)
                      have S1 := S
                      intro v_253 hF_254
                      obtain rfl := cndF.neg hF_254 hc0
                      replace S1 := S1.put (by decide : 81 < 109) (undef)
                      intro v_256 hF_255; obtain rfl : .bool (!(t_72 == (x_161 == y_162))) = v_256 := Eq.symm hF_255
                      replace S1 := S1.put (by decide : 77 < 109) (.bool (!(t_72 == (x_161 == y_162))))
                      refine fill_nil S1 ?_; clear S1; intro a_ S1
                      rw [show (!(t_72 == (x_161 == y_162))) = true from hl0] at S1
                      have S0 := S.defers; replace S := S1; clear S1
                      refine wl_pure (l' := [(82, undef), (77, .bool true), (81, undef), (10, .bool t_81), (9, .bool t_72), (8, .int .i64 c_54), (7, .int .i64 c_56), (4, .pointer (some (⟨b_1, 0, .none⟩ : Addr))), (0, .int .i64 x0), (2, .int .i64 x2)]) S tys tys_ok 1 (by kernel_rfl) ?_; clear S; intro a S
                      refine wpList_nil ?_
                      exact RPost.mk_ S rfl S0 ⟨fun k_ => absurd k_ hc0, fun _ => rfl⟩ (Below.refl _ _)
                  refine RunAll.cons (cndF (!(t_72 == (x_161 == y_162))) false (cndF q_167 true (eqv (.pointer (some ((⟨b_1, 0, .none⟩ : Addr).add ((0 : Int).toNat * GT.sz (.int .i64)))))))) [(cndF (!(t_72 == (x_161 == y_162))) false (eqv (.bool q_167)), 82)] rfl rfl ?_ ?_
                  · intro W_ hW
                    by_cases hc0 : (!(t_72 == (x_161 == y_162))) = false
                    · have hl0 : (!(t_72 == (x_161 == y_162))) = false := hc0
                      by_cases hc2 : q_167 = true
                      · have hl2 : q_167 = true := hc2
                        have S1 := S
                        intro v_257 hF_258
                        replace hF_258 := cndF.pos hF_258 hc0
                        revert hF_258
                        revert v_257
                        intro v_260 hF_259; obtain rfl : .bool q_167 = v_260 := Eq.symm hF_259
                        replace S1 := S1.put (by decide : 82 < 109) (.bool q_167)
                        refine fill_nil S1 ?_; clear S1; intro a_ S1
                        replace B_2 := B_2.step hW
                        replace W := W.step hW
                        rw [show q_167 = true from hl2] at S1
                        have S0 := S.defers; replace S := S1; clear S1
                        obtain ⟨eq_167, eq_169, _⟩ := (HG_166).1 hc0
                        obtain ⟨ey_171, ey_174, _⟩ := (HG_170 hc0).1 hc2
                        refine w_go S rfl (op_indexAddr_arr S rfl ty22 rfl rfl rfl B_2.at_ rfl ey_171 ?_)
                        clear S; intro a S
                        refine wpList_nil ?_
                        exact RPost.mk_ S rfl S0 ⟨fun _ => ⟨fun _ => rfl, fun k_ => absurd hc2 k_⟩, fun k_ => absurd hc0 k_⟩ (Below.refl _ _)
                      · have hl2 : q_167 = false := Bool.eq_false_iff.2 hc2
                        have S1 := S
                        intro v_261 hF_262
                        replace hF_262 := cndF.pos hF_262 hc0
                        revert hF_262
                        revert v_261
                        intro v_264 hF_263; obtain rfl : .bool q_167 = v_264 := Eq.symm hF_263
                        replace S1 := S1.put (by decide : 82 < 109) (.bool q_167)
                        refine fill_nil S1 ?_; clear S1; intro a_ S1
                        rw [show q_167 = false from hl2] at S1
                        have S0 := S.defers; replace S := S1; clear S1
                        refine wl_pure (l' := [(83, undef), (82, .bool false), (10, .bool t_81), (9, .bool t_72), (8, .int .i64 c_54), (7, .int .i64 c_56), (4, .pointer (some (⟨b_1, 0, .none⟩ : Addr))), (0, .int .i64 x0), (2, .int .i64 x2)]) S tys tys_ok 1 (by kernel_rfl) ?_; clear S; intro a S
                        refine wpList_nil ?_
                        exact RPost.mk_ S rfl S0 ⟨fun _ => ⟨fun k_ => absurd k_ hc2, fun _ => rfl⟩, fun k_ => absurd hc0 k_⟩ (Below.refl _ _)
                    · have hl0 : (!(t_72 == (x_161 == y_162))) = true := (by simpa using hc0)
                      have S1 := S
                      intro v_265 hF_266
                      obtain rfl := cndF.neg hF_266 hc0
                      replace S1 := S1.put (by decide : 82 < 109) (undef)
                      refine fill_nil S1 ?_; clear S1; intro a_ S1
                      have S0 := S.defers; replace S := S1; clear S1
                      refine wl_pure (l' := [(83, undef), (82, undef), (10, .bool t_81), (9, .bool t_72), (8, .int .i64 c_54), (7, .int .i64 c_56), (4, .pointer (some (⟨b_1, 0, .none⟩ : Addr))), (0, .int .i64 x0), (2, .int .i64 x2)]) S tys tys_ok 1 (by kernel_rfl) ?_; clear S; intro a S
                      refine wpList_nil ?_
                      exact RPost.mk_ S rfl S0 ⟨fun k_ => absurd k_ hc0, fun _ => rfl⟩ (Below.refl _ _)
                  refine RunAll.cons (cndF (!(t_72 == (x_161 == y_162))) false (cndF q_167 true (isI .i64 y_171))) [(cndF (!(t_72 == (x_161 == y_162))) false (cndF q_167 true (eqv (.pointer (some ((⟨b_1, 0, .none⟩ : Addr).add ((0 : Int).toNat * GT.sz (.int .i64))))))), 83), (cndF (!(t_72 == (x_161 == y_162))) false (eqv (.bool q_167)), 82)] rfl rfl ?_ ?_
                  · intro W_ hW
                    by_cases hc0 : (!(t_72 == (x_161 == y_162))) = false
                    · have hl0 : (!(t_72 == (x_161 == y_162))) = false := hc0
                      by_cases hc2 : q_167 = true
                      · have hl2 : q_167 = true := hc2
                        have S1 := S
                        intro v_267 hF_268
                        replace hF_268 := cndF.pos hF_268 hc0
                        replace hF_268 := cndF.pos hF_268 hc2
                        revert hF_268
                        revert v_267
                        intro v_270 hF_269; obtain rfl : .pointer (some ((⟨b_1, 0, .none⟩ : Addr).add ((0 : Int).toNat * GT.sz (.int .i64)))) = v_270 := Eq.symm hF_269
                        replace S1 := S1.put (by decide : 83 < 109) (.pointer (some ((⟨b_1, 0, .none⟩ : Addr).add ((0 : Int).toNat * GT.sz (.int .i64)))))
                        intro v_271 hF_272
                        replace hF_272 := cndF.pos hF_272 hc0
                        revert hF_272
                        revert v_271
                        intro v_274 hF_273; obtain rfl : .bool q_167 = v_274 := Eq.symm hF_273
                        replace S1 := S1.put (by decide : 82 < 109) (.bool q_167)
                        refine fill_nil S1 ?_; clear S1; intro a_ S1
                        replace B_2 := B_2.step hW
                        rw [show q_167 = true from hl2] at S1
                        have S0 := S.defers; replace S := S1; clear S1
                        obtain ⟨eq_167, eq_169, _⟩ := (HG_166).1 hc0
                        obtain ⟨ey_171, ey_174, _⟩ := (HG_170 hc0).1 hc2
                        refine w_go S rfl (op_load (t := (.int .i64)) (x := y_171) S rfl ty3 rfl rfl rfl (RepAt.ix B_2.at_ ey_171) ?_)
                        clear S; intro a v_275 R_276 S
                        obtain ⟨rfl, GR_276⟩ := RepV.int R_276
                        refine wpList_nil ?_
                        exact RPost.mk_ S rfl S0 ⟨fun _ => ⟨fun _ => ⟨rfl, GR_276⟩, fun k_ => absurd hc2 k_⟩, fun k_ => absurd hc0 k_⟩ (Below.refl _ _)
                      · have hl2 : q_167 = false := Bool.eq_false_iff.2 hc2
                        have S1 := S
                        intro v_277 hF_278
                        replace hF_278 := cndF.pos hF_278 hc0
                        obtain rfl := cndF.neg hF_278 hc2
                        replace S1 := S1.put (by decide : 83 < 109) (undef)
                        intro v_279 hF_280
                        replace hF_280 := cndF.pos hF_280 hc0
                        revert hF_280
                        revert v_279
                        intro v_282 hF_281; obtain rfl : .bool q_167 = v_282 := Eq.symm hF_281
                        replace S1 := S1.put (by decide : 82 < 109) (.bool q_167)
                        refine fill_nil S1 ?_; clear S1; intro a_ S1
                        rw [show q_167 = false from hl2] at S1
                        have S0 := S.defers; replace S := S1; clear S1
                        refine wl_pure (l' := [(84, undef), (82, .bool false), (83, undef), (10, .bool t_81), (9, .bool t_72), (8, .int .i64 c_54), (7, .int .i64 c_56), (4, .pointer (some (⟨b_1, 0, .none⟩ : Addr))), (0, .int .i64 x0), (2, .int .i64 x2)]) S tys tys_ok 1 (by kernel_rfl) ?_; clear S; intro a S
                        refine wpList_nil ?_
                        exact RPost.mk_ S rfl S0 ⟨fun _ => ⟨fun k_ => absurd k_ hc2, fun _ => rfl⟩, fun k_ => absurd hc0 k_⟩ (Below.refl _ _)
                    · have hl0 : (!(t_72 == (x_161 == y_162))) = true := (by simpa using hc0)
                      have S1 := S
                      intro v_283 hF_284
                      obtain rfl := cndF.neg hF_284 hc0
                      replace S1 := S1.put (by decide : 83 < 109) (undef)
                      intro v_285 hF_286
                      obtain rfl := cndF.neg hF_286 hc0
                      replace S1 := S1.put (by decide : 82 < 109) (undef)
                      refine fill_nil S1 ?_; clear S1; intro a_ S1
                      have S0 := S.defers; replace S := S1; clear S1
                      refine wl_pure (l' := [(84, undef), (82, undef), (83, undef), (10, .bool t_81), (9, .bool t_72), (8, .int .i64 c_54), (7, .int .i64 c_56), (4, .pointer (some (⟨b_1, 0, .none⟩ : Addr))), (0, .int .i64 x0), (2, .int .i64 x2)]) S tys tys_ok 1 (by kernel_rfl) ?_; clear S; intro a S
                      refine wpList_nil ?_
                      exact RPost.mk_ S rfl S0 ⟨fun k_ => absurd k_ hc0, fun _ => rfl⟩ (Below.refl _ _)
                  refine RunAll.cons (cndF (!(t_72 == (x_161 == y_162))) false (cndF q_167 true (eqv (.pointer (some ((⟨b_1, 0, .none⟩ : Addr).add ((1 : Int).toNat * GT.sz (.int .i64)))))))) [(cndF (!(t_72 == (x_161 == y_162))) false (eqv (.bool q_167)), 82)] rfl rfl ?_ ?_
                  · intro W_ hW
                    by_cases hc0 : (!(t_72 == (x_161 == y_162))) = false
                    · have hl0 : (!(t_72 == (x_161 == y_162))) = false := hc0
                      by_cases hc2 : q_167 = true
                      · have hl2 : q_167 = true := hc2
                        have S1 := S
                        intro v_287 hF_288
                        replace hF_288 := cndF.pos hF_288 hc0
                        revert hF_288
                        revert v_287
                        intro v_290 hF_289; obtain rfl : .bool q_167 = v_290 := Eq.symm hF_289
                        replace S1 := S1.put (by decide : 82 < 109) (.bool q_167)
                        refine fill_nil S1 ?_; clear S1; intro a_ S1
                        replace B_2 := B_2.step hW
                        replace W := W.step hW
                        rw [show q_167 = true from hl2] at S1
                        have S0 := S.defers; replace S := S1; clear S1
                        obtain ⟨eq_167, eq_169, _⟩ := (HG_166).1 hc0
                        obtain ⟨ey_171, ey_174, _⟩ := (HG_170 hc0).1 hc2
                        refine w_go S rfl (op_indexAddr_arr S rfl ty22 rfl rfl rfl B_2.at_ rfl ey_174 ?_)
                        clear S; intro a S
                        refine wpList_nil ?_
                        exact RPost.mk_ S rfl S0 ⟨fun _ => ⟨fun _ => rfl, fun k_ => absurd hc2 k_⟩, fun k_ => absurd hc0 k_⟩ (Below.refl _ _)
                      · have hl2 : q_167 = false := Bool.eq_false_iff.2 hc2
                        have S1 := S
                        intro v_291 hF_292
                        replace hF_292 := cndF.pos hF_292 hc0
                        revert hF_292
                        revert v_291
                        intro v_294 hF_293; obtain rfl : .bool q_167 = v_294 := Eq.symm hF_293
                        replace S1 := S1.put (by decide : 82 < 109) (.bool q_167)
                        refine fill_nil S1 ?_; clear S1; intro a_ S1
                        rw [show q_167 = false from hl2] at S1
                        have S0 := S.defers; replace S := S1; clear S1
                        refine wl_pure (l' := [(85, undef), (82, .bool false), (10, .bool t_81), (9, .bool t_72), (8, .int .i64 c_54), (7, .int .i64 c_56), (4, .pointer (some (⟨b_1, 0, .none⟩ : Addr))), (0, .int .i64 x0), (2, .int .i64 x2)]) S tys tys_ok 1 (by kernel_rfl) ?_; clear S; intro a S
                        refine wpList_nil ?_
                        exact RPost.mk_ S rfl S0 ⟨fun _ => ⟨fun k_ => absurd k_ hc2, fun _ => rfl⟩, fun k_ => absurd hc0 k_⟩ (Below.refl _ _)
                    · have hl0 : (!(t_72 == (x_161 == y_162))) = true := (by simpa using hc0)
                      have S1 := S
                      intro v_295 hF_296
                      obtain rfl := cndF.neg hF_296 hc0
                      replace S1 := S1.put (by decide : 82 < 109) (undef)
                      refine fill_nil S1 ?_; clear S1; intro a_ S1
                      have S0 := S.defers; replace S := S1; clear S1
                      refine wl_pure (l' := [(85, undef), (82, undef), (10, .bool t_81), (9, .bool t_72), (8, .int .i64 c_54), (7, .int .i64 c_56), (4, .pointer (some (⟨b_1, 0, .none⟩ : Addr))), (0, .int .i64 x0), (2, .int .i64 x2)]) S tys tys_ok 1 (by kernel_rfl) ?_; clear S; intro a S
                      refine wpList_nil ?_
                      exact RPost.mk_ S rfl S0 ⟨fun k_ => absurd k_ hc0, fun _ => rfl⟩ (Below.refl _ _)
                  refine RunAll.cons (cndF (!(t_72 == (x_161 == y_162))) false (cndF q_167 true (isI .i64 y_174))) [(cndF (!(t_72 == (x_161 == y_162))) false (cndF q_167 true (eqv (.pointer (some ((⟨b_1, 0, .none⟩ : Addr).add ((1 : Int).toNat * GT.sz (.int .i64))))))), 85), (cndF (!(t_72 == (x_161 == y_162))) false (eqv (.bool q_167)), 82)] rfl rfl ?_ ?_
                  · intro W_ hW
                    by_cases hc0 : (!(t_72 == (x_161 == y_162))) = false
                    · have hl0 : (!(t_72 == (x_161 == y_162))) = false := hc0
                      by_cases hc2 : q_167 = true
                      · have hl2 : q_167 = true := hc2
                        have S1 := S
                        intro v_297 hF_298
                        replace hF_298 := cndF.pos hF_298 hc0
                        replace hF_298 := cndF.pos hF_298 hc2
                        revert hF_298
                        revert v_297
                        intro v_300 hF_299; obtain rfl : .pointer (some ((⟨b_1, 0, .none⟩ : Addr).add ((1 : Int).toNat * GT.sz (.int .i64)))) = v_300 := Eq.symm hF_299
                        replace S1 := S1.put (by decide : 85 < 109) (.pointer (some ((⟨b_1, 0, .none⟩ : Addr).add ((1 : Int).toNat * GT.sz (.int .i64)))))
                        intro v_301 hF_302
                        replace hF_302 := cndF.pos hF_302 hc0
                        revert hF_302
                        revert v_301
                        intro v_304 hF_303; obtain rfl : .bool q_167 = v_304 := Eq.symm hF_303
                        replace S1 := S1.put (by decide : 82 < 109) (.bool q_167)
                        refine fill_nil S1 ?_; clear S1; intro a_ S1
                        replace B_2 := B_2.step hW
                        rw [show q_167 = true from hl2] at S1
                        have S0 := S.defers; replace S := S1; clear S1
                        obtain ⟨eq_167, eq_169, _⟩ := (HG_166).1 hc0
                        obtain ⟨ey_171, ey_174, _⟩ := (HG_170 hc0).1 hc2
                        refine w_go S rfl (op_load (t := (.int .i64)) (x := y_174) S rfl ty3 rfl rfl rfl (RepAt.ix B_2.at_ ey_174) ?_)
                        clear S; intro a v_305 R_306 S
                        obtain ⟨rfl, GR_306⟩ := RepV.int R_306
                        refine wpList_nil ?_
                        exact RPost.mk_ S rfl S0 ⟨fun _ => ⟨fun _ => ⟨rfl, GR_306⟩, fun k_ => absurd hc2 k_⟩, fun k_ => absurd hc0 k_⟩ (Below.refl _ _)
                      · have hl2 : q_167 = false := Bool.eq_false_iff.2 hc2
                        have S1 := S
                        intro v_307 hF_308
                        replace hF_308 := cndF.pos hF_308 hc0
                        obtain rfl := cndF.neg hF_308 hc2
                        replace S1 := S1.put (by decide : 85 < 109) (undef)
                        intro v_309 hF_310
                        replace hF_310 := cndF.pos hF_310 hc0
                        revert hF_310
                        revert v_309
                        intro v_312 hF_311; obtain rfl : .bool q_167 = v_312 := Eq.symm hF_311
                        replace S1 := S1.put (by decide : 82 < 109) (.bool q_167)
                        refine fill_nil S1 ?_; clear S1; intro a_ S1
                        rw [show q_167 = false from hl2] at S1
                        have S0 := S.defers; replace S := S1; clear S1
                        refine wl_pure (l' := [(86, undef), (82, .bool false), (85, undef), (10, .bool t_81), (9, .bool t_72), (8, .int .i64 c_54), (7, .int .i64 c_56), (4, .pointer (some (⟨b_1, 0, .none⟩ : Addr))), (0, .int .i64 x0), (2, .int .i64 x2)]) S tys tys_ok 1 (by kernel_rfl) ?_; clear S; intro a S
                        refine wpList_nil ?_
                        exact RPost.mk_ S rfl S0 ⟨fun _ => ⟨fun k_ => absurd k_ hc2, fun _ => rfl⟩, fun k_ => absurd hc0 k_⟩ (Below.refl _ _)
                    · have hl0 : (!(t_72 == (x_161 == y_162))) = true := (by simpa using hc0)
                      have S1 := S
                      intro v_313 hF_314
                      obtain rfl := cndF.neg hF_314 hc0
                      replace S1 := S1.put (by decide : 85 < 109) (undef)
                      intro v_315 hF_316
                      obtain rfl := cndF.neg hF_316 hc0
                      replace S1 := S1.put (by decide : 82 < 109) (undef)
                      refine fill_nil S1 ?_; clear S1; intro a_ S1
                      have S0 := S.defers; replace S := S1; clear S1
                      refine wl_pure (l' := [(86, undef), (82, undef), (85, undef), (10, .bool t_81), (9, .bool t_72), (8, .int .i64 c_54), (7, .int .i64 c_56), (4, .pointer (some (⟨b_1, 0, .none⟩ : Addr))), (0, .int .i64 x0), (2, .int .i64 x2)]) S tys tys_ok 1 (by kernel_rfl) ?_; clear S; intro a S
                      refine wpList_nil ?_
                      exact RPost.mk_ S rfl S0 ⟨fun k_ => absurd k_ hc0, fun _ => rfl⟩ (Below.refl _ _)
                  refine RunAll.cons (cndF (!(t_72 == (x_161 == y_162))) false (cndF q_167 true (eqv (.bool (y_171 != y_174))))) [(cndF (!(t_72 == (x_161 == y_162))) false (cndF q_167 true (isI .i64 y_171)), 84), (cndF (!(t_72 == (x_161 == y_162))) false (cndF q_167 true (isI .i64 y_174)), 86), (cndF (!(t_72 == (x_161 == y_162))) false (eqv (.bool q_167)), 82)] rfl rfl ?_ ?_
                  · intro W_ hW
                    by_cases hc0 : (!(t_72 == (x_161 == y_162))) = false
                    · have hl0 : (!(t_72 == (x_161 == y_162))) = false := hc0
                      by_cases hc2 : q_167 = true
                      · have hl2 : q_167 = true := hc2
                        have S1 := S
                        intro v_317 hF_318
                        replace hF_318 := cndF.pos hF_318 hc0
                        replace hF_318 := cndF.pos hF_318 hc2
                        revert hF_318
                        revert v_317
                        rintro _ ⟨rfl, hF_319⟩
                        replace S1 := S1.put (by decide : 84 < 109) (.int .i64 y_171)
                        intro v_321 hF_322
                        replace hF_322 := cndF.pos hF_322 hc0
                        replace hF_322 := cndF.pos hF_322 hc2
                        revert hF_322
                        revert v_321
                        rintro _ ⟨rfl, hF_323⟩
                        replace S1 := S1.put (by decide : 86 < 109) (.int .i64 y_174)
                        intro v_325 hF_326
                        replace hF_326 := cndF.pos hF_326 hc0
                        revert hF_326
                        revert v_325
                        intro v_328 hF_327; obtain rfl : .bool q_167 = v_328 := Eq.symm hF_327
                        replace S1 := S1.put (by decide : 82 < 109) (.bool q_167)
                        refine fill_nil S1 ?_; clear S1; intro a_ S1
                        rw [show q_167 = true from hl2] at S1
                        have S0 := S.defers; replace S := S1; clear S1
                        refine wl_pure (l' := [(87, .bool (y_171 != y_174)), (82, .bool true), (86, .int .i64 y_174), (84, .int .i64 y_171), (10, .bool t_81), (9, .bool t_72), (8, .int .i64 c_54), (7, .int .i64 c_56), (4, .pointer (some (⟨b_1, 0, .none⟩ : Addr))), (0, .int .i64 x0), (2, .int .i64 x2)]) S tys tys_ok 1 (by kernel_rfl) ?_; clear S; intro a S
                        refine wpList_nil ?_
                        exact RPost.mk_ S rfl S0 ⟨fun _ => ⟨fun _ => rfl, fun k_ => absurd hc2 k_⟩, fun k_ => absurd hc0 k_⟩ (Below.refl _ _)
                      · have hl2 : q_167 = false := Bool.eq_false_iff.2 hc2
                        have S1 := S
                        intro v_329 hF_330
                        replace hF_330 := cndF.pos hF_330 hc0
                        obtain rfl := cndF.neg hF_330 hc2
                        replace S1 := S1.put (by decide : 84 < 109) (undef)
                        intro v_331 hF_332
                        replace hF_332 := cndF.pos hF_332 hc0
                        obtain rfl := cndF.neg hF_332 hc2
                        replace S1 := S1.put (by decide : 86 < 109) (undef)
                        intro v_333 hF_334
                        replace hF_334 := cndF.pos hF_334 hc0
                        revert hF_334
                        revert v_333
                        intro v_336 hF_335; obtain rfl : .bool q_167 = v_336 := Eq.symm hF_335
                        replace S1 := S1.put (by decide : 82 < 109) (.bool q_167)
                        refine fill_nil S1 ?_; clear S1; intro a_ S1
                        rw [show q_167 = false from hl2] at S1
                        have S0 := S.defers; replace S := S1; clear S1
                        refine wl_pure (l' := [(87, undef), (82, .bool false), (86, undef), (84, undef), (10, .bool t_81), (9, .bool t_72), (8, .int .i64 c_54), (7, .int .i64 c_56), (4, .pointer (some (⟨b_1, 0, .none⟩ : Addr))), (0, .int .i64 x0), (2, .int .i64 x2)]) S tys tys_ok 1 (by kernel_rfl) ?_; clear S; intro a S
                        refine wpList_nil ?_
                        exact RPost.mk_ S rfl S0 ⟨fun _ => ⟨fun k_ => absurd k_ hc2, fun _ => rfl⟩, fun k_ => absurd hc0 k_⟩ (Below.refl _ _)
                    · have hl0 : (!(t_72 == (x_161 == y_162))) = true := (by simpa using hc0)
                      have S1 := S
                      intro v_337 hF_338
                      obtain rfl := cndF.neg hF_338 hc0
                      replace S1 := S1.put (by decide : 84 < 109) (undef)
                      intro v_339 hF_340
                      obtain rfl := cndF.neg hF_340 hc0
                      replace S1 := S1.put (by decide : 86 < 109) (undef)
                      intro v_341 hF_342
                      obtain rfl := cndF.neg hF_342 hc0
                      replace S1 := S1.put (by decide : 82 < 109) (undef)
                      refine fill_nil S1 ?_; clear S1; intro a_ S1
                      have S0 := S.defers; replace S := S1; clear S1
                      refine wl_pure (l' := [(87, undef), (82, undef), (86, undef), (84, undef), (10, .bool t_81), (9, .bool t_72), (8, .int .i64 c_54), (7, .int .i64 c_56), (4, .pointer (some (⟨b_1, 0, .none⟩ : Addr))), (0, .int .i64 x0), (2, .int .i64 x2)]) S tys tys_ok 1 (by kernel_rfl) ?_; clear S; intro a S
                      refine wpList_nil ?_
                      exact RPost.mk_ S rfl S0 ⟨fun k_ => absurd k_ hc0, fun _ => rfl⟩ (Below.refl _ _)
                  refine RunAll.cons (cndF (!(t_72 == (x_161 == y_162))) false (eqv (.bool q_169))) [(cndF (!(t_72 == (x_161 == y_162))) false (eqv (.bool q_167)), 82), (cndF (!(t_72 == (x_161 == y_162))) false (cndF q_167 true (eqv (.bool (y_171 != y_174)))), 87), (eqv (.bool (!(t_72 == (x_161 == y_162)))), 77)] rfl rfl ?_ ?_
                  · intro W_ hW
                    by_cases hc0 : (!(t_72 == (x_161 == y_162))) = false
                    · have hl0 : (!(t_72 == (x_161 == y_162))) = false := hc0
                      by_cases hc2 : q_167 = true
                      · have hl2 : q_167 = true := hc2
                        have S1 := S
                        intro v_343 hF_344
                        replace hF_344 := cndF.pos hF_344 hc0
                        revert hF_344
                        revert v_343
                        intro v_346 hF_345; obtain rfl : .bool q_167 = v_346 := Eq.symm hF_345
                        replace S1 := S1.put (by decide : 82 < 109) (.bool q_167)
                        intro v_347 hF_348
                        replace hF_348 := cndF.pos hF_348 hc0
                        replace hF_348 := cndF.pos hF_348 hc2
                        revert hF_348
                        revert v_347
                        intro v_350 hF_349; obtain rfl : .bool (y_171 != y_174) = v_350 := Eq.symm hF_349
                        replace S1 := S1.put (by decide : 87 < 109) (.bool (y_171 != y_174))
                        intro v_352 hF_351; obtain rfl : .bool (!(t_72 == (x_161 == y_162))) = v_352 := Eq.symm hF_351
                        replace S1 := S1.put (by decide : 77 < 109) (.bool (!(t_72 == (x_161 == y_162))))
                        refine fill_nil S1 ?_; clear S1; intro a_ S1
                        rw [show (!(t_72 == (x_161 == y_162))) = false from hl0] at S1
                        rw [show q_167 = true from hl2] at S1
                        have S0 := S.defers; replace S := S1; clear S1
                        refine wl_pure (l' := [(88, .bool (y_171 != y_174)), (77, .bool false), (87, .bool (y_171 != y_174)), (82, .bool true), (10, .bool t_81), (9, .bool t_72), (8, .int .i64 c_54), (7, .int .i64 c_56), (4, .pointer (some (⟨b_1, 0, .none⟩ : Addr))), (0, .int .i64 x0), (2, .int .i64 x2)]) S tys tys_ok 1 (by kernel_rfl) ?_; clear S; intro a S
                        refine wpList_nil ?_
                        exact RPost.mk_ S rfl S0 ⟨fun _ => (congrArg Value.bool ((HG_170 hc0).1 hc2).2.2), fun k_ => absurd hc0 k_⟩ (Below.refl _ _)
                      · have hl2 : q_167 = false := Bool.eq_false_iff.2 hc2
                        have S1 := S
                        intro v_353 hF_354
                        replace hF_354 := cndF.pos hF_354 hc0
                        revert hF_354
                        revert v_353
                        intro v_356 hF_355; obtain rfl : .bool q_167 = v_356 := Eq.symm hF_355
                        replace S1 := S1.put (by decide : 82 < 109) (.bool q_167)
                        intro v_357 hF_358
                        replace hF_358 := cndF.pos hF_358 hc0
                        obtain rfl := cndF.neg hF_358 hc2
                        replace S1 := S1.put (by decide : 87 < 109) (undef)
                        intro v_360 hF_359; obtain rfl : .bool (!(t_72 == (x_161 == y_162))) = v_360 := Eq.symm hF_359
                        replace S1 := S1.put (by decide : 77 < 109) (.bool (!(t_72 == (x_161 == y_162))))
                        refine fill_nil S1 ?_; clear S1; intro a_ S1
                        rw [show (!(t_72 == (x_161 == y_162))) = false from hl0] at S1
                        rw [show q_167 = false from hl2] at S1
                        have S0 := S.defers; replace S := S1; clear S1
                        refine wl_pure (l' := [(88, .bool false), (77, .bool false), (87, undef), (82, .bool false), (10, .bool t_81), (9, .bool t_72), (8, .int .i64 c_54), (7, .int .i64 c_56), (4, .pointer (some (⟨b_1, 0, .none⟩ : Addr))), (0, .int .i64 x0), (2, .int .i64 x2)]) S tys tys_ok 1 (by kernel_rfl) ?_; clear S; intro a S
                        refine wpList_nil ?_
                        exact RPost.mk_ S rfl S0 ⟨fun _ => (congrArg Value.bool ((HG_170 hc0).2 hc2)), fun k_ => absurd hc0 k_⟩ (Below.refl _ _)
                    · have hl0 : (!(t_72 == (x_161 == y_162))) = true := (by simpa using hc0)
                      have S1 := S
                      intro v_361 hF_362
                      obtain rfl := cndF.neg hF_362 hc0
                      replace S1 := S1.put (by decide : 82 < 109) (undef)
                      intro v_363 hF_364
                      obtain rfl := cndF.neg hF_364 hc0
                      replace S1 := S1.put (by decide : 87 < 109) (undef)
                      intro v_366 hF_365; obtain rfl : .bool (!(t_72 == (x_161 == y_162))) = v_366 := Eq.symm hF_365
                      replace S1 := S1.put (by decide : 77 < 109) (.bool (!(t_72 == (x_161 == y_162))))
                      refine fill_nil S1 ?_; clear S1; intro a_ S1
                      rw [show (!(t_72 == (x_161 == y_162))) = true from hl0] at S1
                      have S0 := S.defers; replace S := S1; clear S1
                      refine wl_pure (l' := [(88, undef), (77, .bool true), (87, undef), (82, undef), (10, .bool t_81), (9, .bool t_72), (8, .int .i64 c_54), (7, .int .i64 c_56), (4, .pointer (some (⟨b_1, 0, .none⟩ : Addr))), (0, .int .i64 x0), (2, .int .i64 x2)]) S tys tys_ok 1 (by kernel_rfl) ?_; clear S; intro a S
                      refine wpList_nil ?_
                      exact RPost.mk_ S rfl S0 ⟨fun k_ => absurd k_ hc0, fun _ => rfl⟩ (Below.refl _ _)
                  refine RunAll.cons (eqv (.bool q_165)) [(eqv (.bool (!(t_72 == (x_161 == y_162)))), 77), (cndF (!(t_72 == (x_161 == y_162))) false (eqv (.bool q_169)), 88)] rfl rfl ?_ ?_
                  · intro W_ hW
                    by_cases hc0 : (!(t_72 == (x_161 == y_162))) = false
                    · have hl0 : (!(t_72 == (x_161 == y_162))) = false := hc0
                      have S1 := S
                      intro v_368 hF_367; obtain rfl : .bool (!(t_72 == (x_161 == y_162))) = v_368 := Eq.symm hF_367
                      replace S1 := S1.put (by decide : 77 < 109) (.bool (!(t_72 == (x_161 == y_162))))
                      intro v_369 hF_370
                      replace hF_370 := cndF.pos hF_370 hc0
                      revert hF_370
                      revert v_369
                      intro v_372 hF_371; obtain rfl : .bool q_169 = v_372 := Eq.symm hF_371
                      replace S1 := S1.put (by decide : 88 < 109) (.bool q_169)
                      refine fill_nil S1 ?_; clear S1; intro a_ S1
                      rw [show (!(t_72 == (x_161 == y_162))) = false from hl0] at S1
                      have S0 := S.defers; replace S := S1; clear S1
                      refine wl_pure (l' := [(89, .bool q_169), (88, .bool q_169), (77, .bool false), (10, .bool t_81), (9, .bool t_72), (8, .int .i64 c_54), (7, .int .i64 c_56), (4, .pointer (some (⟨b_1, 0, .none⟩ : Addr))), (0, .int .i64 x0), (2, .int .i64 x2)]) S tys tys_ok 1 (by kernel_rfl) ?_; clear S; intro a S
                      refine wpList_nil ?_
                      exact RPost.mk_ S rfl S0 (congrArg Value.bool ((HG_166).1 hc0).2.2) (Below.refl _ _)
                    · have hl0 : (!(t_72 == (x_161 == y_162))) = true := (by simpa using hc0)
                      have S1 := S
                      intro v_374 hF_373; obtain rfl : .bool (!(t_72 == (x_161 == y_162))) = v_374 := Eq.symm hF_373
                      replace S1 := S1.put (by decide : 77 < 109) (.bool (!(t_72 == (x_161 == y_162))))
                      intro v_375 hF_376
                      obtain rfl := cndF.neg hF_376 hc0
                      replace S1 := S1.put (by decide : 88 < 109) (undef)
                      refine fill_nil S1 ?_; clear S1; intro a_ S1
                      rw [show (!(t_72 == (x_161 == y_162))) = true from hl0] at S1
                      have S0 := S.defers; replace S := S1; clear S1
                      refine wl_pure (l' := [(89, .bool true), (88, undef), (77, .bool true), (10, .bool t_81), (9, .bool t_72), (8, .int .i64 c_54), (7, .int .i64 c_56), (4, .pointer (some (⟨b_1, 0, .none⟩ : Addr))), (0, .int .i64 x0), (2, .int .i64 x2)]) S tys tys_ok 1 (by kernel_rfl) ?_; clear S; intro a S
                      refine wpList_nil ?_
                      exact RPost.mk_ S rfl S0 (congrArg Value.bool ((HG_166).2 hc0)) (Below.refl _ _)
                  exact trivial
                intro w_377 hb_378
                refine EndE.some_ rfl ?_
                intro v_380 hF_379; obtain rfl : .bool t_72 = v_380 := Eq.symm hF_379
                replace S := S.put (by decide : 67 < 109) (.bool t_72)
                refine EndE.some_ rfl ?_
                rintro _ ⟨rfl, hF_381⟩
                replace S := S.put (by decide : 68 < 109) (.int .i64 x2)
                refine EndE.some_ rfl ?_
                rintro _ ⟨rfl, hF_383⟩
                replace S := S.put (by decide : 69 < 109) (.int .i64 c_54)
                refine EndE.some_ rfl ?_
                rintro _ ⟨rfl, hF_385⟩
                replace S := S.put (by decide : 70 < 109) (.int .i64 x_160)
                refine EndE.some_ rfl ?_
                rintro _ ⟨rfl, hF_387⟩
                replace S := S.put (by decide : 71 < 109) (.int .i64 x0)
                refine EndE.some_ rfl ?_
                rintro _ ⟨rfl, hF_389⟩
                replace S := S.put (by decide : 72 < 109) (.int .i64 x_161)
                refine EndE.some_ rfl ?_
                intro v_392 hF_391; obtain rfl : .pointer (some ((⟨b_1, 0, .none⟩ : Addr).add ((0 : Int).toNat * GT.sz (.int .i64)))) = v_392 := Eq.symm hF_391
                replace S := S.put (by decide : 73 < 109) (.pointer (some ((⟨b_1, 0, .none⟩ : Addr).add ((0 : Int).toNat * GT.sz (.int .i64)))))
                refine EndE.some_ rfl ?_
                rintro _ ⟨rfl, hF_393⟩
                replace S := S.put (by decide : 74 < 109) (.int .i64 y_162)
                refine EndE.some_ rfl ?_
                intro v_396 hF_395; obtain rfl : .bool (x_161 == y_162) = v_396 := Eq.symm hF_395
                replace S := S.put (by decide : 75 < 109) (.bool (x_161 == y_162))
                refine EndE.some_ rfl ?_
                intro v_398 hF_397; obtain rfl : .bool (!(t_72 == (x_161 == y_162))) = v_398 := Eq.symm hF_397
                replace S := S.put (by decide : 76 < 109) (.bool (!(t_72 == (x_161 == y_162))))
                refine EndE.some_ rfl ?_
                intro v_400 hF_399; obtain rfl : .bool (!(t_72 == (x_161 == y_162))) = v_400 := Eq.symm hF_399
                replace S := S.put (by decide : 77 < 109) (.bool (!(t_72 == (x_161 == y_162))))
                refine EndE.some_ rfl ?_
                intro v_401 _
                replace S := S.put (by decide : 78 < 109) (v_401)
                refine EndE.some_ rfl ?_
                intro v_402 _
                replace S := S.put (by decide : 79 < 109) (v_402)
                refine EndE.some_ rfl ?_
                intro v_403 _
                replace S := S.put (by decide : 80 < 109) (v_403)
                refine EndE.some_ rfl ?_
                intro v_404 _
                replace S := S.put (by decide : 81 < 109) (v_404)
                refine EndE.some_ rfl ?_
                intro v_405 _
                replace S := S.put (by decide : 82 < 109) (v_405)
                refine EndE.some_ rfl ?_
                intro v_406 _
                replace S := S.put (by decide : 83 < 109) (v_406)
                refine EndE.some_ rfl ?_
                intro v_407 _
                replace S := S.put (by decide : 84 < 109) (v_407)
                refine EndE.some_ rfl ?_
                intro v_408 _
                replace S := S.put (by decide : 85 < 109) (v_408)
                refine EndE.some_ rfl ?_
                intro v_409 _
                replace S := S.put (by decide : 86 < 109) (v_409)
                refine EndE.some_ rfl ?_
                intro v_410 _
                replace S := S.put (by decide : 87 < 109) (v_410)
                refine EndE.some_ rfl ?_
                intro v_411 _
                replace S := S.put (by decide : 88 < 109) (v_411)
                refine EndE.some_ rfl ?_
                intro v_413 hF_412; obtain rfl : .bool q_165 = v_413 := Eq.symm hF_412
                replace S := S.put (by decide : 89 < 109) (.bool q_165)
                refine endE_nil S ?_; clear S; intro a S
                replace B_2 := B_2.step hb_378
                replace W := W.step hb_378
                refine then_n ?_
                replace S := S.sub (l' := [(89, .bool q_165), (9, .bool t_72), (8, .int .i64 c_54), (7, .int .i64 c_56), (4, .pointer (some (⟨b_1, 0, .none⟩ : Addr))), (0, .int .i64 x0), (2, .int .i64 x2)]) (by exact ⟨rfl, rfl, rfl, rfl, rfl, rfl, rfl, trivial⟩)
                refine wp_cond_split (S.eval (show ev _ _ = some (.bool q_165) from rfl)) ?_ ?_
                · intro hc
                  rw [if_pos hc] at hl_66
                  refine wp_seq ?_
                  refine wp_region_lit ?_
                  refine wl_pure (l' := [(6, .bool false), (89, .bool q_165), (9, .bool t_72), (8, .int .i64 c_54), (7, .int .i64 c_56), (4, .pointer (some (⟨b_1, 0, .none⟩ : Addr))), (0, .int .i64 x0), (2, .int .i64 x2)]) S tys tys_ok 1 (by kernel_rfl) ?_
                  clear S; intro a S
                  refine wpList_nil ?_
                  refine then_n ?_
                  replace S := S.sub (l' := [(6, .bool false)]) (by exact ⟨rfl, trivial⟩)
                  refine wp_ret ?_
                  refine then_r ?_
                  refine blk_r ?_
                  refine then_r ?_
                  refine then_r ?_
                  refine blk_r ?_
                  refine then_r ?_
                  refine then_r ?_
                  obtain rfl := Option.some.inj hl_66
                  obtain rfl := lr_inr h
                  exact b_ret1 S rfl rfl ⟨_, rfl, RepV.mkBool, W.below⟩
                · intro hc
                  rw [if_neg (Bool.eq_false_iff.1 hc)] at hl_66
                  refine wp_skip ?_
                  refine then_n ?_
                  replace S := S.sub (l' := [(9, .bool t_72), (8, .int .i64 c_54), (7, .int .i64 c_56), (4, .pointer (some (⟨b_1, 0, .none⟩ : Addr))), (0, .int .i64 x0), (2, .int .i64 x2)]) (by exact ⟨rfl, rfl, rfl, rfl, rfl, rfl, trivial⟩)
                  refine wp_seq ?_
                  refine wp_region_lit ?_
                  refine wl_pure (l' := [(90, .bool t_72), (9, .bool t_72), (8, .int .i64 c_54), (7, .int .i64 c_56), (4, .pointer (some (⟨b_1, 0, .none⟩ : Addr))), (0, .int .i64 x0), (2, .int .i64 x2)]) S tys tys_ok 1 (by kernel_rfl) ?_
                  clear S; intro a S
                  refine wpList_nil ?_
                  refine then_n ?_
                  replace S := S.sub (l' := [(90, .bool t_72), (8, .int .i64 c_54), (7, .int .i64 c_56), (4, .pointer (some (⟨b_1, 0, .none⟩ : Addr))), (0, .int .i64 x0), (2, .int .i64 x2)]) (by exact ⟨rfl, rfl, rfl, rfl, rfl, rfl, trivial⟩)
                  obtain ⟨j_414, ej_414, hl_66⟩ := bindS hl_66
                  refine wp_cut_ (fun a_ w_ => St 109 a_ [(8, .int .i64 c_54), (7, .int .i64 j_414), (4, .pointer (some (⟨b_1, 0, .none⟩ : Addr))), (0, .int .i64 x0), (2, .int .i64 x2)] ∧ Wd w w_ [some b_1] ∧ InR .i64 j_414 ∧ Bx (.arr 2 (.int .i64)) 22 w_ (Kx K w.heap.size [some b_1]) b_1 x1) ?_ ?_
                  · refine wp_cond_split (S.eval (show ev _ _ = some (.bool t_72) from rfl)) ?_ ?_
                    · intro hc
                      rw [if_pos hc] at ej_414
                      refine wp_region_lit ?_
                      refine wl_pure (l' := [(91, .int .i64 c_56), (90, .bool t_72), (8, .int .i64 c_54), (7, .int .i64 c_56), (4, .pointer (some (⟨b_1, 0, .none⟩ : Addr))), (0, .int .i64 x0), (2, .int .i64 x2)]) S tys tys_ok 1 (by kernel_rfl) ?_
                      clear S; intro a S
                      obtain ⟨x_416, ex_416, ej_414⟩ := bindS ej_414
                      refine w_go S rfl (op_arith S .i64 (c_56 + 1) rfl (.inl rfl) rfl rfl rfl rfl ex_416 ?_)
                      clear S; intro a S
                      refine wl_pure (l' := [(7, .int .i64 x_416), (92, .int .i64 x_416), (91, .int .i64 c_56), (90, .bool t_72), (8, .int .i64 c_54), (7, .int .i64 c_56), (4, .pointer (some (⟨b_1, 0, .none⟩ : Addr))), (0, .int .i64 x0), (2, .int .i64 x2)]) S tys tys_ok 1 (by kernel_rfl) ?_
                      clear S; intro a S
                      refine wpList_nil ?_
                      refine then_n ?_
                      obtain rfl := Option.some.inj ej_414
                      exact ⟨S.sub (by exact ⟨rfl, rfl, rfl, rfl, rfl, trivial⟩), W, (ckI_some ex_416).2.1, B_2⟩
                    · intro hc
                      rw [if_neg (Bool.eq_false_iff.1 hc)] at ej_414
                      refine wp_skip ?_
                      refine then_n ?_
                      obtain rfl := Option.some.inj ej_414
                      exact ⟨S.sub (by exact ⟨rfl, rfl, rfl, rfl, rfl, trivial⟩), W, G_57, B_2⟩
                  clear S W; rintro a w_417 ⟨S, W, G_415, B_2⟩
                  refine blk_n ?_
                  refine then_n ?_
                  refine wp_region_lit ?_
                  refine wl_pure (l' := [(51, .int .i64 c_54), (8, .int .i64 c_54), (7, .int .i64 j_414), (4, .pointer (some (⟨b_1, 0, .none⟩ : Addr))), (0, .int .i64 x0), (2, .int .i64 x2)]) S tys tys_ok 1 (by kernel_rfl) ?_
                  clear S; intro a S
                  obtain ⟨x_418, ex_418, hl_66⟩ := bindS hl_66
                  refine w_go S rfl (op_arith S .i64 (c_54 + 1) rfl (.inl rfl) rfl rfl rfl rfl ex_418 ?_)
                  clear S; intro a S
                  refine wl_pure (l' := [(8, .int .i64 x_418), (52, .int .i64 x_418), (51, .int .i64 c_54), (8, .int .i64 c_54), (7, .int .i64 j_414), (4, .pointer (some (⟨b_1, 0, .none⟩ : Addr))), (0, .int .i64 x0), (2, .int .i64 x2)]) S tys tys_ok 1 (by kernel_rfl) ?_
                  clear S; intro a S
                  refine wpList_nil ?_
                  refine then_n ?_
                  exact ⟨x_418, j_414, ⟨S.sub (by exact ⟨rfl, rfl, rfl, rfl, rfl, trivial⟩), W, (ckI_some ex_418).2.1, G_415, B_2, hl_66⟩⟩
              · intro hc
                rw [if_neg (Bool.eq_false_iff.1 hc)] at hl_66
                refine wp_exit ?_
                refine then_x ?_
                refine then_x ?_
                refine blk_hit ?_
                refine then_n ?_
                obtain rfl := Option.some.inj hl_66
                exact ⟨_, rfl, ⟨S.sub (by exact ⟨rfl, rfl, rfl, rfl, trivial⟩), W, G_57, B_2⟩⟩
        clear S W; rintro a w_419 ⟨s_63, rfl, S, W, G_64, B_2⟩
        replace h := lr_inl h; try dsimp only at h
        refine then_n ?_
        refine wp_seq ?_
        refine wp_region_lit ?_
        refine wl_pure (l' := [(95, .bool (s_63 == 1)), (94, .bool (s_63 == 1)), (93, .int .i64 s_63), (0, .int .i64 x0), (2, .int .i64 x2), (4, .pointer (some (⟨b_1, 0, .none⟩ : Addr))), (7, .int .i64 s_63)]) S tys tys_ok 3 (by kernel_rfl) ?_
        clear S; intro a S
        obtain ⟨q_420, eq_420, h⟩ := bindS h
        refine seg 10 (fun a_ w_ => St 109 a_ [(105, .bool q_420)] ∧ Wd w w_ [some b_1] ∧ Bx (.arr 2 (.int .i64)) 22 w_ (Kx K w.heap.size [some b_1]) b_1 x1) ?_ ?_
        · by_cases hc : (s_63 == 1) = true
          · rw [if_pos hc] at eq_420; rw [hc] at S
            refine wl_pure (l' := [(96, .int .i64 x0), (95, .bool true), (94, .bool true), (93, .int .i64 s_63), (0, .int .i64 x0), (2, .int .i64 x2), (4, .pointer (some (⟨b_1, 0, .none⟩ : Addr))), (7, .int .i64 s_63)]) S tys tys_ok 1 (by kernel_rfl) ?_
            clear S; intro a S
            obtain ⟨y_421, ey_421, eq_420⟩ := bindS eq_420
            refine w_go S rfl (op_indexAddr_arr S rfl ty22 rfl rfl rfl B_2.at_ rfl ey_421 ?_)
            clear S; intro a S
            refine w_go S rfl (op_load (t := (.int .i64)) (x := y_421) S rfl ty3 rfl rfl rfl (RepAt.ix B_2.at_ ey_421) ?_)
            clear S; intro a v_422 R_423 S
            obtain ⟨rfl, GR_423⟩ := RepV.int R_423
            refine wl_pure (l' := [(101, .int .i64 x0), (100, .int .i64 x2), (99, .int .i64 x2), (98, .int .i64 y_421), (97, .pointer (some ((⟨b_1, 0, .none⟩ : Addr).add ((0 : Int).toNat * GT.sz (.int .i64))))), (96, .int .i64 x0), (95, .bool true), (94, .bool true), (93, .int .i64 s_63), (0, .int .i64 x0), (2, .int .i64 x2), (4, .pointer (some (⟨b_1, 0, .none⟩ : Addr))), (7, .int .i64 s_63)]) S tys tys_ok 3 (by kernel_rfl) ?_
            clear S; intro a S
            obtain ⟨x_424, ex_424, eq_420⟩ := bindS eq_420
            refine w_go S rfl (op_arith S .i64 (x2 + x0) rfl (.inl rfl) rfl rfl rfl rfl ex_424 ?_)
            clear S; intro a S
            obtain ⟨t_425, et_425, eq_420⟩ := bindS eq_420
            refine w_go S rfl (op_call (vs := [.int .i64 x0, .int .i64 y_421, .int .i64 x2, .int .i64 x_424]) S rfl cb13 rfl rfl rfl (c13 (Kx K w.heap.size [some b_1]) n w_419 x0 G0 y_421 GR_423 x2 G2 x_424 (ckI_some ex_424).2.1 et_425) ?_)
            rintro _ w_429 ⟨v_426, rfl, R_427, hb_428⟩; refine ⟨_, rfl, ?_⟩
            replace R_427 := RepV.back R_427 W
            clear S; intro a S
            replace B_2 := B_2.step hb_428
            replace W := W.step hb_428
            obtain ⟨rfl, GR_427⟩ := RepV.int R_427
            refine wl_pure (l' := [(105, .bool (t_425 == 1)), (104, .bool (t_425 == 1)), (103, .int .i64 t_425), (102, .int .i64 x_424), (101, .int .i64 x0), (100, .int .i64 x2), (99, .int .i64 x2), (98, .int .i64 y_421), (97, .pointer (some ((⟨b_1, 0, .none⟩ : Addr).add ((0 : Int).toNat * GT.sz (.int .i64))))), (96, .int .i64 x0), (95, .bool true), (94, .bool true), (93, .int .i64 s_63), (0, .int .i64 x0), (2, .int .i64 x2), (4, .pointer (some (⟨b_1, 0, .none⟩ : Addr))), (7, .int .i64 s_63)]) S tys tys_ok 2 (by kernel_rfl) ?_
            clear S; intro a S
            obtain rfl := Option.some.inj eq_420
            exact ⟨S.sub (by exact ⟨rfl, trivial⟩), W, B_2⟩
          · rw [if_neg hc] at eq_420; rw [show (s_63 == 1) = false from Bool.eq_false_iff.2 hc] at S
            refine wl_pure (l' := [(105, .bool false), (104, undef), (103, undef), (102, undef), (101, undef), (100, undef), (99, undef), (98, undef), (97, undef), (96, undef), (95, .bool false), (94, .bool false), (93, .int .i64 s_63), (0, .int .i64 x0), (2, .int .i64 x2), (4, .pointer (some (⟨b_1, 0, .none⟩ : Addr))), (7, .int .i64 s_63)]) S tys tys_ok 10 (by kernel_rfl) ?_
            clear S; intro a S
            obtain rfl := Option.some.inj eq_420
            exact ⟨S.sub (by exact ⟨rfl, trivial⟩), W, B_2⟩
        clear S W eq_420; rintro a w_430 ⟨S, W, B_2⟩
        refine wl_pure (l' := [(106, .bool q_420), (105, .bool q_420)]) S tys tys_ok 1 (by kernel_rfl) ?_
        clear S; intro a S
        obtain ⟨q_431, eq_431, h⟩ := bindS h
        refine seg 2 (fun a_ w_ => St 109 a_ [(108, .bool q_431)] ∧ Wd w w_ [some b_1] ∧ Bx (.arr 2 (.int .i64)) 22 w_ (Kx K w.heap.size [some b_1]) b_1 x1) ?_ ?_
        · by_cases hc : q_420 = true
          · rw [if_pos hc] at eq_431; rw [hc] at S
            obtain ⟨t_432, et_432, eq_431⟩ := bindS eq_431
            refine w_go S rfl (op_call (vs := []) S rfl cb10 rfl rfl rfl (c10 (Kx K w.heap.size [some b_1]) n w_430  et_432) ?_)
            rintro _ w_436 ⟨v_433, rfl, R_434, hb_435⟩; refine ⟨_, rfl, ?_⟩
            replace R_434 := RepV.back R_434 W
            clear S; intro a S
            replace B_2 := B_2.step hb_435
            replace W := W.step hb_435
            obtain rfl := RepV.bool R_434
            refine wl_pure (l' := [(108, .bool t_432), (107, .bool t_432), (106, .bool true), (105, .bool true)]) S tys tys_ok 1 (by kernel_rfl) ?_
            clear S; intro a S
            obtain rfl := Option.some.inj eq_431
            exact ⟨S.sub (by exact ⟨rfl, trivial⟩), W, B_2⟩
          · rw [if_neg hc] at eq_431; rw [show q_420 = false from Bool.eq_false_iff.2 hc] at S
            refine wl_pure (l' := [(108, .bool false), (107, undef), (106, .bool false), (105, .bool false)]) S tys tys_ok 2 (by kernel_rfl) ?_
            clear S; intro a S
            obtain rfl := Option.some.inj eq_431
            exact ⟨S.sub (by exact ⟨rfl, trivial⟩), W, B_2⟩
        clear S W eq_431; rintro a w_437 ⟨S, W, B_2⟩
        refine wl_pure (l' := [(6, .bool q_431), (108, .bool q_431)]) S tys tys_ok 1 (by kernel_rfl) ?_
        clear S; intro a S
        refine wpList_nil ?_
        refine then_n ?_
        replace S := S.sub (l' := [(6, .bool q_431)]) (by exact ⟨rfl, trivial⟩)
        refine wp_ret ?_
        obtain rfl := Option.some.inj h
        exact b_ret1 S rfl rfl ⟨_, rfl, RepV.mkBool, W.below⟩

end Go.Proofs.Ytpllbhofpppfcaa
