/- x. -/
import Derived.Test.YtojifdijcanbpaaQc1
set_option linter.unusedVariables false
set_option linter.unusedSimpArgs false
namespace Go.Proofs.Ytojifdijcanbpaa
open Go.RowKit

def p6 (n : Nat) (x0 : Int × Int × Int × Int × Bool × Bool × Int) (x1 : Sl (Int)) : Option ((Bool)) :=
  if (decide ((lenI x1) > 40)) then ((p11 n).bind fun t_6 => some t_6) else (p18 n x0).bind fun t_13 => (p20 n x0).bind fun t_22 => (p19 n t_13.1 t_13.2 t_22).bind fun t_27 => if (!t_27) then (some false) else (p21 n t_13.1).bind fun t_32 => (if (t_13.2 == 0) = true then (if (!(eqP (.pair (.int .u16) (.pair (.int .u8) (.pair (.int .u8) (.pair (.int .u8) (.pair .bool (.pair .bool (.int .u8))))))) t_32.1 x0)) = false then some (t_32.2 != 0) else some true).bind fun q_50 => some q_50 else some false).bind fun q_45 => if q_45 then (some false) else (p21 n x1).bind fun t_51 => if (t_51.2 != 0) then ((if ((lenI x1) == 9) = true then (idx x1.xs 0).bind fun y_67 => some (y_67 == 9) else some false).bind fun q_65 => (if q_65 = true then (idx x1.xs 1).bind fun y_75 => some (y_75 == 2) else some false).bind fun q_73 => (if q_73 = true then (idx x1.xs 2).bind fun y_83 => (idx x1.xs 3).bind fun y_89 => (ckI .i64 (256 * y_89)).bind fun x_95 => (ckI .i64 (y_83 + x_95)).bind fun x_96 => some (decide (x_96 ≥ 9)) else some false).bind fun q_81 => (if q_81 = true then (idx x1.xs 2).bind fun y_99 => (idx x1.xs 3).bind fun y_105 => (ckI .i64 (256 * y_105)).bind fun x_111 => (ckI .i64 (y_99 + x_111)).bind fun x_112 => some (decide (x_112 ≤ 4096)) else some false).bind fun q_97 => (if q_97 = true then (idx x1.xs 4).bind fun y_115 => some (decide (y_115 > 0)) else some false).bind fun q_113 => (if q_113 = true then (idx x1.xs 4).bind fun y_123 => some (decide (y_123 < 17)) else some false).bind fun q_121 => (if q_121 = true then (idx x1.xs 5).bind fun y_131 => some (decide (y_131 > 0)) else some false).bind fun q_129 => (if q_129 = true then (idx x1.xs 7).bind fun y_139 => some (decide (y_139 ≥ 128)) else some false).bind fun q_137 => (if q_137 = true then (idx x1.xs 7).bind fun y_147 => (remI .u8 y_147 32).bind fun x_153 => some (x_153 == 0) else some false).bind fun q_145 => (if q_145 = true then (idx x1.xs 8).bind fun y_156 => some (decide (y_156 < 251)) else some false).bind fun q_154 => (p22 n t_51.2 (lenI x1) 9).bind fun t_981 => (if t_981 = true then some (eqP (.pair (.int .u16) (.pair (.int .u8) (.pair (.int .u8) (.pair (.int .u8) (.pair .bool (.pair .bool (.int .u8))))))) t_51.1 (0, 0, 0, 0, false, false, 0)) else some false).bind fun q_986 => (if q_986 = true then some (!q_154) else some false).bind fun q_991 => (if q_991 = true then (p11 n).bind fun t_993 => some t_993 else some false).bind fun q_992 => some q_992) else (p20 n t_51.1).bind fun t_1001 => (if (decide (t_1001 = x1.xs)) = true then (p11 n).bind fun t_1008 => some t_1008 else some false).bind fun q_1006 => some q_1006
set_option maxHeartbeats 4000000 in
set_option maxRecDepth 100000 in
/-- plugboard/plugboardlaw13.DescriptorsConfiguration -/
theorem c6 (K : Nat → Prop) (n : Nat) (w : World) (x0 : Int × Int × Int × Int × Bool × Bool × Int) (v0 : Value) (R0 : RepV (.st (.pair (.int .u16) (.pair (.int .u8) (.pair (.int .u8) (.pair (.int .u8) (.pair .bool (.pair .bool (.int .u8)))))))) w K v0 x0) (x1 : Sl (Int)) (v1 : Value) (R1 : RepV (.sl (.int .u8)) w K v1 x1) {r : (Bool)} (h : p6 n x0 x1 = some r) :
    Calls Try.prog 6 #[v0, v1] w (Ret1 .bool w (Kx K w.heap.size []) r) := by
  refine enter (args := [v0, v1]) Try.func6 rfl 152 rfl rfl fun a S => ?_
  have W := Wd.start w
  replace R0 := R0.arg
  replace R1 := R1.arg
  unfold p6 at h
  replace S : St 152 a [(0, v0), (1, v1)] := S
  refine wp_seq ?_
  refine wp_region_lit ?_
  refine w_go S rfl (op_box S rfl rfl rfl rfl rfl R0 ?_)
  clear S; intro a w_3 b_1 hb_4 B_2 S
  replace R0 := R0.box hb_4
  replace R1 := R1.box hb_4
  replace W := W.box hb_4
  refine wl_pure (l' := [(4, .bool false), (2, .pointer (some (⟨b_1, 0, .none⟩ : Addr))), (0, v0), (1, v1)]) S tys tys_ok 1 (by kernel_rfl) ?_
  clear S; intro a S
  refine wpList_nil ?_
  refine then_n ?_
  replace S := S.sub (l' := [(2, .pointer (some (⟨b_1, 0, .none⟩ : Addr))), (1, v1)]) (by exact ⟨rfl, rfl, trivial⟩)
  refine wp_seq ?_
  refine wp_seq ?_
  refine wp_region_lit ?_
  refine wl_pure (l' := [(12, v1), (2, .pointer (some (⟨b_1, 0, .none⟩ : Addr))), (1, v1)]) S tys tys_ok 1 (by kernel_rfl) ?_
  clear S; intro a S
  refine w_go S rfl (op_len (K := _) S rfl ty23 rfl rfl rfl R1 ?_)
  clear S; intro a G_5 S
  refine wl_pure (l' := [(14, .bool (decide ((lenI x1) > 40))), (13, .int .i64 (lenI x1)), (12, v1), (2, .pointer (some (⟨b_1, 0, .none⟩ : Addr))), (1, v1)]) S tys tys_ok 1 (by kernel_rfl) ?_
  clear S; intro a S
  refine wpList_nil ?_
  refine then_n ?_
  replace S := S.sub (l' := [(14, .bool (decide ((lenI x1) > 40))), (2, .pointer (some (⟨b_1, 0, .none⟩ : Addr))), (1, v1)]) (by exact ⟨rfl, rfl, rfl, trivial⟩)
  refine wp_cond_split (S.eval (show ev _ _ = some (.bool (decide ((lenI x1) > 40))) from rfl)) ?_ ?_
  · intro hc
    rw [if_pos hc] at h
    refine wp_seq ?_
    refine wp_region_lit ?_
    obtain ⟨t_6, et_6, h⟩ := bindS h
    refine w_go S rfl (op_call (vs := []) S rfl cb11 rfl rfl rfl (c11 (Kx K w.heap.size [some b_1]) n w_3  et_6) ?_)
    rintro _ w_10 ⟨v_7, rfl, R_8, hb_9⟩; refine ⟨_, rfl, ?_⟩
    replace R_8 := RepV.back R_8 W
    clear S; intro a S
    replace R1 := R1.step hb_9
    replace B_2 := B_2.step hb_9
    replace W := W.step hb_9
    obtain rfl := RepV.bool R_8
    refine wl_pure (l' := [(4, .bool t_6), (15, .bool t_6), (14, .bool (decide ((lenI x1) > 40))), (2, .pointer (some (⟨b_1, 0, .none⟩ : Addr))), (1, v1)]) S tys tys_ok 1 (by kernel_rfl) ?_
    clear S; intro a S
    refine wpList_nil ?_
    refine then_n ?_
    replace S := S.sub (l' := [(4, .bool t_6)]) (by exact ⟨rfl, trivial⟩)
    refine wp_ret ?_
    refine then_r ?_
    obtain rfl := Option.some.inj h
    exact b_ret1 S rfl rfl ⟨_, rfl, RepV.mkBool, W.below⟩
  · intro hc
    rw [if_neg (Bool.eq_false_iff.1 hc)] at h
    refine wp_skip ?_
    refine then_n ?_
    replace S := S.sub (l' := [(2, .pointer (some (⟨b_1, 0, .none⟩ : Addr))), (1, v1)]) (by exact ⟨rfl, rfl, trivial⟩)
    refine wp_seq ?_
    refine wp_region_lit ?_
    refine w_go S rfl (op_load (t := (.st (.pair (.int .u16) (.pair (.int .u8) (.pair (.int .u8) (.pair (.int .u8) (.pair .bool (.pair .bool (.int .u8))))))))) (x := x0) S rfl ty51 rfl rfl rfl B_2.at_ ?_)
    clear S; intro a v_11 R_12 S
    obtain ⟨t_13, et_13, h⟩ := bindS h
    refine w_go S rfl (op_call (vs := [v_11]) S rfl cb18 rfl rfl rfl (c18 (Kx K w.heap.size [some b_1]) n w_3 x0 _ R_12 et_13) ?_)
    rintro _ w_19 ⟨v_14, v_15, rfl, R_16, R_17, hb_18⟩; refine ⟨_, rfl, ?_⟩
    replace R_16 := RepV.back R_16 W
    replace R_17 := RepV.back R_17 W
    clear S; intro a S
    replace R1 := R1.step hb_18
    replace R_12 := R_12.step hb_18
    replace B_2 := B_2.step hb_18
    replace W := W.step hb_18
    obtain ⟨rfl, GR_17⟩ := RepV.int R_17
    refine wl_pure (l' := [(6, .int .i64 t_13.2), (5, v_14), (20, .int .i64 t_13.2), (19, v_14), (16, .tuple #[v_14, .int .i64 t_13.2]), (18, .tuple #[v_14, .int .i64 t_13.2]), (17, v_11), (2, .pointer (some (⟨b_1, 0, .none⟩ : Addr))), (1, v1)]) S tys tys_ok 5 (by kernel_rfl) ?_
    clear S; intro a S
    refine wpList_nil ?_
    refine then_n ?_
    replace S := S.sub (l' := [(6, .int .i64 t_13.2), (5, v_14), (2, .pointer (some (⟨b_1, 0, .none⟩ : Addr))), (1, v1)]) (by exact ⟨rfl, rfl, rfl, rfl, trivial⟩)
    refine wp_seq ?_
    refine wp_seq ?_
    refine wp_region_lit ?_
    refine wl_pure (l' := [(22, .int .i64 t_13.2), (21, v_14), (6, .int .i64 t_13.2), (5, v_14), (2, .pointer (some (⟨b_1, 0, .none⟩ : Addr))), (1, v1)]) S tys tys_ok 2 (by kernel_rfl) ?_
    clear S; intro a S
    refine w_go S rfl (op_load (t := (.st (.pair (.int .u16) (.pair (.int .u8) (.pair (.int .u8) (.pair (.int .u8) (.pair .bool (.pair .bool (.int .u8))))))))) (x := x0) S rfl ty51 rfl rfl rfl B_2.at_ ?_)
    clear S; intro a v_20 R_21 S
    obtain ⟨t_22, et_22, h⟩ := bindS h
    refine w_go S rfl (op_call (vs := [v_20]) S rfl cb20 rfl rfl rfl (c20 (Kx K w.heap.size [some b_1]) n w_19 x0 _ R_21 et_22) ?_)
    rintro _ w_26 ⟨v_23, rfl, R_24, hb_25⟩; refine ⟨_, rfl, ?_⟩
    replace R_24 := RepV.back R_24 W
    clear S; intro a S
    replace R_16 := R_16.step hb_25
    replace R1 := R1.step hb_25
    replace R_21 := R_21.step hb_25
    replace B_2 := B_2.step hb_25
    replace W := W.step hb_25
    obtain ⟨rfl, GR_24⟩ := RepV.str R_24
    obtain ⟨t_27, et_27, h⟩ := bindS h
    refine w_go S rfl (op_call (vs := [v_14, .int .i64 t_13.2, .string (strOfNums t_22)]) S rfl cb19 rfl rfl rfl (c19 (Kx K w.heap.size [some b_1]) n w_26 t_13.1 _ R_16 t_13.2 GR_17 t_22 GR_24 et_27) ?_)
    rintro _ w_31 ⟨v_28, rfl, R_29, hb_30⟩; refine ⟨_, rfl, ?_⟩
    replace R_29 := RepV.back R_29 W
    clear S; intro a S
    replace R_16 := R_16.step hb_30
    replace R1 := R1.step hb_30
    replace R_21 := R_21.step hb_30
    replace B_2 := B_2.step hb_30
    replace W := W.step hb_30
    obtain rfl := RepV.bool R_29
    refine wl_pure (l' := [(26, .bool (!t_27)), (25, .bool t_27), (24, .string (strOfNums t_22)), (23, v_20), (22, .int .i64 t_13.2), (21, v_14), (6, .int .i64 t_13.2), (5, v_14), (2, .pointer (some (⟨b_1, 0, .none⟩ : Addr))), (1, v1)]) S tys tys_ok 1 (by kernel_rfl) ?_
    clear S; intro a S
    refine wpList_nil ?_
    refine then_n ?_
    replace S := S.sub (l' := [(26, .bool (!t_27)), (6, .int .i64 t_13.2), (5, v_14), (2, .pointer (some (⟨b_1, 0, .none⟩ : Addr))), (1, v1)]) (by exact ⟨rfl, rfl, rfl, rfl, rfl, trivial⟩)
    refine wp_cond_split (S.eval (show ev _ _ = some (.bool (!t_27)) from rfl)) ?_ ?_
    · intro hc
      rw [if_pos hc] at h
      refine wp_seq ?_
      refine wp_region_lit ?_
      refine wl_pure (l' := [(4, .bool false), (26, .bool (!t_27)), (6, .int .i64 t_13.2), (5, v_14), (2, .pointer (some (⟨b_1, 0, .none⟩ : Addr))), (1, v1)]) S tys tys_ok 1 (by kernel_rfl) ?_
      clear S; intro a S
      refine wpList_nil ?_
      refine then_n ?_
      replace S := S.sub (l' := [(4, .bool false)]) (by exact ⟨rfl, trivial⟩)
      refine wp_ret ?_
      refine then_r ?_
      obtain rfl := Option.some.inj h
      exact b_ret1 S rfl rfl ⟨_, rfl, RepV.mkBool, W.below⟩
    · intro hc
      rw [if_neg (Bool.eq_false_iff.1 hc)] at h
      refine wp_skip ?_
      refine then_n ?_
      replace S := S.sub (l' := [(6, .int .i64 t_13.2), (5, v_14), (2, .pointer (some (⟨b_1, 0, .none⟩ : Addr))), (1, v1)]) (by exact ⟨rfl, rfl, rfl, rfl, trivial⟩)
      refine wp_seq ?_
      refine wp_seq ?_
      refine wp_region_lit ?_
      refine wl_pure (l' := [(28, v_14), (6, .int .i64 t_13.2), (5, v_14), (2, .pointer (some (⟨b_1, 0, .none⟩ : Addr))), (1, v1)]) S tys tys_ok 1 (by kernel_rfl) ?_
      clear S; intro a S
      obtain ⟨t_32, et_32, h⟩ := bindS h
      refine w_go S rfl (op_call (vs := [v_14]) S rfl cb21 rfl rfl rfl (c21 (Kx K w.heap.size [some b_1]) n w_31 t_13.1 _ R_16 et_32) ?_)
      rintro _ w_38 ⟨v_33, v_34, rfl, R_35, R_36, hb_37⟩; refine ⟨_, rfl, ?_⟩
      replace R_35 := RepV.back R_35 W
      replace R_36 := RepV.back R_36 W
      clear S; intro a S
      replace R_16 := R_16.step hb_37
      replace R1 := R1.step hb_37
      replace B_2 := B_2.step hb_37
      replace W := W.step hb_37
      obtain ⟨rfl, GR_36⟩ := RepV.int R_36
      refine wl_pure (l' := [(31, .int .i64 t_32.2), (30, v_33), (27, .tuple #[v_33, .int .i64 t_32.2]), (29, .tuple #[v_33, .int .i64 t_32.2]), (28, v_14), (6, .int .i64 t_13.2), (5, v_14), (2, .pointer (some (⟨b_1, 0, .none⟩ : Addr))), (1, v1)]) S tys tys_ok 3 (by kernel_rfl) ?_
      clear S; intro a S
      refine w_go S rfl (op_alloc (K := K) (n := w.heap.size) (L := [some b_1]) (t := (.st (.pair (.int .u16) (.pair (.int .u8) (.pair (.int .u8) (.pair (.int .u8) (.pair .bool (.pair .bool (.int .u8))))))))) (y := (0, 0, 0, 0, false, false, 0)) S rfl rfl rfl _ z51 (fun w K => ⟨[.int .u16 0], [.int .u8 0, .int .u8 0, .int .u8 0, .bool false, .bool false, .int .u8 0], rfl, ⟨rfl, by decide⟩, ⟨[.int .u8 0], [.int .u8 0, .int .u8 0, .bool false, .bool false, .int .u8 0], rfl, ⟨rfl, by decide⟩, ⟨[.int .u8 0], [.int .u8 0, .bool false, .bool false, .int .u8 0], rfl, ⟨rfl, by decide⟩, ⟨[.int .u8 0], [.bool false, .bool false, .int .u8 0], rfl, ⟨rfl, by decide⟩, ⟨[.bool false], [.bool false, .int .u8 0], rfl, rfl, ⟨[.bool false], [.int .u8 0], rfl, rfl, ⟨rfl, by decide⟩⟩⟩⟩⟩⟩⟩) ?_)
      clear S; intro a w_41 b_39 hb_42 B_40 S
      replace R_16 := R_16.box hb_42
      replace R1 := R1.box hb_42
      replace R_35 := R_35.box hb_42
      replace B_2 := B_2.box hb_42
      replace W := W.box hb_42
      refine w_go S rfl (op_store (t' := (.st (.pair (.int .u16) (.pair (.int .u8) (.pair (.int .u8) (.pair (.int .u8) (.pair .bool (.pair .bool (.int .u8))))))))) S rfl rfl ty51 rfl rfl rfl B_40 (by simp) Ln.whole R_35 ?_)
      intro w_43 hw_44 B_
      replace R_16 := R_16.wrote hw_44 (by simp)
      replace R1 := R1.wrote hw_44 (by simp)
      replace R_35 := R_35.wrote hw_44 (by simp)
      replace B_2 := B_2.wrote hw_44 (by simp) (W.bne (p := 1) (q := 0) (by decide) rfl rfl)
      replace W := W.wrote hw_44 (by simp)
      replace B_40 : Bx (.st (.pair (.int .u16) (.pair (.int .u8) (.pair (.int .u8) (.pair (.int .u8) (.pair .bool (.pair .bool (.int .u8)))))))) 51 w_43 (Kx K w.heap.size [some b_39, some b_1]) b_39 t_32.1 := B_; clear B_
      refine wl_pure (l' := [(8, .int .i64 t_32.2), (7, .pointer (some (⟨b_39, 0, .none⟩ : Addr))), (31, .int .i64 t_32.2), (30, v_33), (27, .tuple #[v_33, .int .i64 t_32.2]), (29, .tuple #[v_33, .int .i64 t_32.2]), (28, v_14), (6, .int .i64 t_13.2), (5, v_14), (2, .pointer (some (⟨b_1, 0, .none⟩ : Addr))), (1, v1)]) S tys tys_ok 1 (by kernel_rfl) ?_
      clear S; intro a S
      refine wpList_nil ?_
      refine then_n ?_
      replace S := S.sub (l' := [(8, .int .i64 t_32.2), (7, .pointer (some (⟨b_39, 0, .none⟩ : Addr))), (6, .int .i64 t_13.2), (2, .pointer (some (⟨b_1, 0, .none⟩ : Addr))), (1, v1)]) (by exact ⟨rfl, rfl, rfl, rfl, rfl, trivial⟩)
      refine wp_seq ?_
      refine wp_region_lit ?_
      refine wl_pure (l' := [(34, .bool (t_13.2 == 0)), (33, .bool (t_13.2 == 0)), (32, .int .i64 t_13.2), (8, .int .i64 t_32.2), (7, .pointer (some (⟨b_39, 0, .none⟩ : Addr))), (6, .int .i64 t_13.2), (2, .pointer (some (⟨b_1, 0, .none⟩ : Addr))), (1, v1)]) S tys tys_ok 3 (by kernel_rfl) ?_
      clear S; intro a S
      obtain ⟨q_45, eq_45, h⟩ := bindS h
      refine seg 8 (fun a_ w_ => w_43 = w_ ∧ St 152 a_ [(42, .bool q_45), (1, v1)]) ?_ ?_
      · by_cases hc : (t_13.2 == 0) = true
        · rw [if_pos hc] at eq_45; rw [hc] at S
          refine w_go S rfl (op_load (t := (.st (.pair (.int .u16) (.pair (.int .u8) (.pair (.int .u8) (.pair (.int .u8) (.pair .bool (.pair .bool (.int .u8))))))))) (x := t_32.1) S rfl ty51 rfl rfl rfl B_40.at_ ?_)
          clear S; intro a v_46 R_47 S
          refine w_go S rfl (op_load (t := (.st (.pair (.int .u16) (.pair (.int .u8) (.pair (.int .u8) (.pair (.int .u8) (.pair .bool (.pair .bool (.int .u8))))))))) (x := x0) S rfl ty51 rfl rfl rfl B_2.at_ ?_)
          clear S; intro a v_48 R_49 S
          refine w_go S rfl (op_stneq (t := (.pair (.int .u16) (.pair (.int .u8) (.pair (.int .u8) (.pair (.int .u8) (.pair .bool (.pair .bool (.int .u8)))))))) (m := t_32.1) (n := x0) S rfl rfl rfl rfl rfl rfl ty51 eq51 R_47 R_49 ?_)
          clear S; intro a S
          refine wl_pure (l' := [(38, .bool (!(eqP (.pair (.int .u16) (.pair (.int .u8) (.pair (.int .u8) (.pair (.int .u8) (.pair .bool (.pair .bool (.int .u8))))))) t_32.1 x0))), (37, .bool (!(eqP (.pair (.int .u16) (.pair (.int .u8) (.pair (.int .u8) (.pair (.int .u8) (.pair .bool (.pair .bool (.int .u8))))))) t_32.1 x0))), (36, v_48), (35, v_46), (34, .bool true), (33, .bool true), (32, .int .i64 t_13.2), (8, .int .i64 t_32.2), (7, .pointer (some (⟨b_39, 0, .none⟩ : Addr))), (6, .int .i64 t_13.2), (2, .pointer (some (⟨b_1, 0, .none⟩ : Addr))), (1, v1)]) S tys tys_ok 1 (by kernel_rfl) ?_
          clear S; intro a S
          obtain ⟨q_50, eq_50, eq_45⟩ := bindS eq_45
          refine seg 3 (fun a_ w_ => w_43 = w_ ∧ St 152 a_ [(41, .bool q_50), (34, .bool true), (1, v1)]) ?_ ?_
          · by_cases hc : (!(eqP (.pair (.int .u16) (.pair (.int .u8) (.pair (.int .u8) (.pair (.int .u8) (.pair .bool (.pair .bool (.int .u8))))))) t_32.1 x0)) = false
            · rw [if_pos hc] at eq_50; rw [hc] at S
              refine wl_pure (l' := [(41, .bool (t_32.2 != 0)), (40, .bool (t_32.2 != 0)), (39, .int .i64 t_32.2), (38, .bool false), (37, .bool false), (36, v_48), (35, v_46), (34, .bool true), (33, .bool true), (32, .int .i64 t_13.2), (8, .int .i64 t_32.2), (7, .pointer (some (⟨b_39, 0, .none⟩ : Addr))), (6, .int .i64 t_13.2), (2, .pointer (some (⟨b_1, 0, .none⟩ : Addr))), (1, v1)]) S tys tys_ok 3 (by kernel_rfl) ?_
              clear S; intro a S
              obtain rfl := Option.some.inj eq_50
              exact ⟨rfl, S.sub (by exact ⟨rfl, rfl, rfl, trivial⟩)⟩
            · rw [if_neg hc] at eq_50; rw [show (!(eqP (.pair (.int .u16) (.pair (.int .u8) (.pair (.int .u8) (.pair (.int .u8) (.pair .bool (.pair .bool (.int .u8))))))) t_32.1 x0)) = true from (by simpa using hc)] at S
              refine wl_pure (l' := [(41, .bool true), (40, undef), (39, undef), (38, .bool true), (37, .bool true), (36, v_48), (35, v_46), (34, .bool true), (33, .bool true), (32, .int .i64 t_13.2), (8, .int .i64 t_32.2), (7, .pointer (some (⟨b_39, 0, .none⟩ : Addr))), (6, .int .i64 t_13.2), (2, .pointer (some (⟨b_1, 0, .none⟩ : Addr))), (1, v1)]) S tys tys_ok 3 (by kernel_rfl) ?_
              clear S; intro a S
              obtain rfl := Option.some.inj eq_50
              exact ⟨rfl, S.sub (by exact ⟨rfl, rfl, rfl, trivial⟩)⟩
          clear S eq_50; rintro a _ ⟨rfl, S⟩
          refine wl_pure (l' := [(42, .bool q_50), (41, .bool q_50), (34, .bool true), (1, v1)]) S tys tys_ok 1 (by kernel_rfl) ?_
          clear S; intro a S
          obtain rfl := Option.some.inj eq_45
          exact ⟨rfl, S.sub (by exact ⟨rfl, rfl, trivial⟩)⟩
        · rw [if_neg hc] at eq_45; rw [show (t_13.2 == 0) = false from Bool.eq_false_iff.2 hc] at S
          refine wl_pure (l' := [(42, .bool false), (41, undef), (40, undef), (39, undef), (38, undef), (37, undef), (36, undef), (35, undef), (34, .bool false), (33, .bool false), (32, .int .i64 t_13.2), (8, .int .i64 t_32.2), (7, .pointer (some (⟨b_39, 0, .none⟩ : Addr))), (6, .int .i64 t_13.2), (2, .pointer (some (⟨b_1, 0, .none⟩ : Addr))), (1, v1)]) S tys tys_ok 8 (by kernel_rfl) ?_
          clear S; intro a S
          obtain rfl := Option.some.inj eq_45
          exact ⟨rfl, S.sub (by exact ⟨rfl, rfl, trivial⟩)⟩
      clear S eq_45; rintro a _ ⟨rfl, S⟩
      refine wpList_nil ?_
      refine then_n ?_
      refine wp_cond_split (S.eval (show ev _ _ = some (.bool q_45) from rfl)) ?_ ?_
      · intro hc
        rw [if_pos hc] at h
        refine wp_seq ?_
        refine wp_region_lit ?_
        refine wl_pure (l' := [(4, .bool false), (42, .bool q_45), (1, v1)]) S tys tys_ok 1 (by kernel_rfl) ?_
        clear S; intro a S
        refine wpList_nil ?_
        refine then_n ?_
        replace S := S.sub (l' := [(4, .bool false)]) (by exact ⟨rfl, trivial⟩)
        refine wp_ret ?_
        refine then_r ?_
        obtain rfl := Option.some.inj h
        exact b_ret1 S rfl rfl ⟨_, rfl, RepV.mkBool, W.below⟩
      · intro hc
        rw [if_neg (Bool.eq_false_iff.1 hc)] at h
        refine wp_skip ?_
        refine then_n ?_
        replace S := S.sub (l' := [(1, v1)]) (by exact ⟨rfl, trivial⟩)
        refine wp_seq ?_
        refine wp_region_lit ?_
        refine wl_pure (l' := [(44, v1), (1, v1)]) S tys tys_ok 1 (by kernel_rfl) ?_
        clear S; intro a S
        obtain ⟨t_51, et_51, h⟩ := bindS h
        refine w_go S rfl (op_call (vs := [v1]) S rfl cb21 rfl rfl rfl (c21 (Kx K w.heap.size [some b_39, some b_1]) n w_43 x1 _ R1 et_51) ?_)
        rintro _ w_57 ⟨v_52, v_53, rfl, R_54, R_55, hb_56⟩; refine ⟨_, rfl, ?_⟩
        replace R_54 := RepV.back R_54 W
        replace R_55 := RepV.back R_55 W
        clear S; intro a S
        replace R1 := R1.step hb_56
        replace B_2 := B_2.step hb_56
        replace B_40 := B_40.step hb_56
        replace W := W.step hb_56
        obtain ⟨rfl, GR_55⟩ := RepV.int R_55
        refine wl_pure (l' := [(47, .int .i64 t_51.2), (46, v_52), (43, .tuple #[v_52, .int .i64 t_51.2]), (45, .tuple #[v_52, .int .i64 t_51.2]), (44, v1), (1, v1)]) S tys tys_ok 3 (by kernel_rfl) ?_
        clear S; intro a S
        refine w_go S rfl (op_alloc (K := K) (n := w.heap.size) (L := [some b_39, some b_1]) (t := (.st (.pair (.int .u16) (.pair (.int .u8) (.pair (.int .u8) (.pair (.int .u8) (.pair .bool (.pair .bool (.int .u8))))))))) (y := (0, 0, 0, 0, false, false, 0)) S rfl rfl rfl _ z51 (fun w K => ⟨[.int .u16 0], [.int .u8 0, .int .u8 0, .int .u8 0, .bool false, .bool false, .int .u8 0], rfl, ⟨rfl, by decide⟩, ⟨[.int .u8 0], [.int .u8 0, .int .u8 0, .bool false, .bool false, .int .u8 0], rfl, ⟨rfl, by decide⟩, ⟨[.int .u8 0], [.int .u8 0, .bool false, .bool false, .int .u8 0], rfl, ⟨rfl, by decide⟩, ⟨[.int .u8 0], [.bool false, .bool false, .int .u8 0], rfl, ⟨rfl, by decide⟩, ⟨[.bool false], [.bool false, .int .u8 0], rfl, rfl, ⟨[.bool false], [.int .u8 0], rfl, rfl, ⟨rfl, by decide⟩⟩⟩⟩⟩⟩⟩) ?_)
        clear S; intro a w_60 b_58 hb_61 B_59 S
        replace R1 := R1.box hb_61
        replace R_54 := R_54.box hb_61
        replace B_2 := B_2.box hb_61
        replace B_40 := B_40.box hb_61
        replace W := W.box hb_61
        refine w_go S rfl (op_store (t' := (.st (.pair (.int .u16) (.pair (.int .u8) (.pair (.int .u8) (.pair (.int .u8) (.pair .bool (.pair .bool (.int .u8))))))))) S rfl rfl ty51 rfl rfl rfl B_59 (by simp) Ln.whole R_54 ?_)
        intro w_62 hw_63 B_
        replace R1 := R1.wrote hw_63 (by simp)
        replace R_54 := R_54.wrote hw_63 (by simp)
        replace B_2 := B_2.wrote hw_63 (by simp) (W.bne (p := 2) (q := 0) (by decide) rfl rfl)
        replace B_40 := B_40.wrote hw_63 (by simp) (W.bne (p := 1) (q := 0) (by decide) rfl rfl)
        replace W := W.wrote hw_63 (by simp)
        replace B_59 : Bx (.st (.pair (.int .u16) (.pair (.int .u8) (.pair (.int .u8) (.pair (.int .u8) (.pair .bool (.pair .bool (.int .u8)))))))) 51 w_62 (Kx K w.heap.size [some b_58, some b_39, some b_1]) b_58 t_51.1 := B_; clear B_
        refine wl_pure (l' := [(10, .int .i64 t_51.2), (9, .pointer (some (⟨b_58, 0, .none⟩ : Addr))), (47, .int .i64 t_51.2), (46, v_52), (43, .tuple #[v_52, .int .i64 t_51.2]), (45, .tuple #[v_52, .int .i64 t_51.2]), (44, v1), (1, v1)]) S tys tys_ok 1 (by kernel_rfl) ?_
        clear S; intro a S
        refine wpList_nil ?_
        refine then_n ?_
        replace S := S.sub (l' := [(10, .int .i64 t_51.2), (9, .pointer (some (⟨b_58, 0, .none⟩ : Addr))), (1, v1)]) (by exact ⟨rfl, rfl, rfl, trivial⟩)
        refine wp_seq ?_
        refine wp_seq ?_
        refine wp_region_lit ?_
        refine wl_pure (l' := [(49, .bool (t_51.2 != 0)), (48, .int .i64 t_51.2), (10, .int .i64 t_51.2), (9, .pointer (some (⟨b_58, 0, .none⟩ : Addr))), (1, v1)]) S tys tys_ok 2 (by kernel_rfl) ?_
        clear S; intro a S
        refine wpList_nil ?_
        refine then_n ?_
        replace S := S.sub (l' := [(49, .bool (t_51.2 != 0)), (10, .int .i64 t_51.2), (9, .pointer (some (⟨b_58, 0, .none⟩ : Addr))), (1, v1)]) (by exact ⟨rfl, rfl, rfl, rfl, trivial⟩)
        refine wp_cond_split (S.eval (show ev _ _ = some (.bool (t_51.2 != 0)) from rfl)) ?_ ?_
        · intro hc
          rw [if_pos hc] at h
          refine wp_seq ?_
          obtain ⟨q_65, eq_65, h⟩ := bindS h
          obtain ⟨y_67, HG_66⟩ : ∃ (y_67 : Int) , (((lenI x1) == 9) = true → (idx x1.xs 0) = some y_67 ∧ (y_67 == 9) = q_65) ∧ (¬ ((lenI x1) == 9) = true → false = q_65) := by
            by_cases hc : ((lenI x1) == 9) = true
            · rw [if_pos hc] at eq_65
              obtain ⟨y_67, ey_67, eq_65⟩ := bindS eq_65
              exact ⟨y_67, ⟨fun _ => ⟨ey_67, Option.some.inj eq_65⟩, fun k_ => absurd hc k_⟩⟩
            · rw [if_neg hc] at eq_65
              exact ⟨default, ⟨fun k_ => absurd k_ hc, fun _ => Option.some.inj eq_65⟩⟩
          obtain ⟨q_73, eq_73, h⟩ := bindS h
          obtain ⟨y_75, HG_74⟩ : ∃ (y_75 : Int) , (q_65 = true → (idx x1.xs 1) = some y_75 ∧ (y_75 == 2) = q_73) ∧ (¬ q_65 = true → false = q_73) := by
            by_cases hc : q_65 = true
            · rw [if_pos hc] at eq_73
              obtain ⟨y_75, ey_75, eq_73⟩ := bindS eq_73
              exact ⟨y_75, ⟨fun _ => ⟨ey_75, Option.some.inj eq_73⟩, fun k_ => absurd hc k_⟩⟩
            · rw [if_neg hc] at eq_73
              exact ⟨default, ⟨fun k_ => absurd k_ hc, fun _ => Option.some.inj eq_73⟩⟩
          obtain ⟨q_81, eq_81, h⟩ := bindS h
          obtain ⟨y_83, y_89, x_95, x_96, HG_82⟩ : ∃ (y_83 : Int) (y_89 : Int) (x_95 : Int) (x_96 : Int) , (q_73 = true → (idx x1.xs 2) = some y_83 ∧ (idx x1.xs 3) = some y_89 ∧ (ckI .i64 (256 * y_89)) = some x_95 ∧ (ckI .i64 (y_83 + x_95)) = some x_96 ∧ (decide (x_96 ≥ 9)) = q_81) ∧ (¬ q_73 = true → false = q_81) := by
            by_cases hc : q_73 = true
            · rw [if_pos hc] at eq_81
              obtain ⟨y_83, ey_83, eq_81⟩ := bindS eq_81
              obtain ⟨y_89, ey_89, eq_81⟩ := bindS eq_81
              obtain ⟨x_95, ex_95, eq_81⟩ := bindS eq_81
              obtain ⟨x_96, ex_96, eq_81⟩ := bindS eq_81
              exact ⟨y_83, y_89, x_95, x_96, ⟨fun _ => ⟨ey_83, ey_89, ex_95, ex_96, Option.some.inj eq_81⟩, fun k_ => absurd hc k_⟩⟩
            · rw [if_neg hc] at eq_81
              exact ⟨default, default, default, default, ⟨fun k_ => absurd k_ hc, fun _ => Option.some.inj eq_81⟩⟩
          obtain ⟨q_97, eq_97, h⟩ := bindS h
          obtain ⟨y_99, y_105, x_111, x_112, HG_98⟩ : ∃ (y_99 : Int) (y_105 : Int) (x_111 : Int) (x_112 : Int) , (q_81 = true → (idx x1.xs 2) = some y_99 ∧ (idx x1.xs 3) = some y_105 ∧ (ckI .i64 (256 * y_105)) = some x_111 ∧ (ckI .i64 (y_99 + x_111)) = some x_112 ∧ (decide (x_112 ≤ 4096)) = q_97) ∧ (¬ q_81 = true → false = q_97) := by
            by_cases hc : q_81 = true
            · rw [if_pos hc] at eq_97
              obtain ⟨y_99, ey_99, eq_97⟩ := bindS eq_97
              obtain ⟨y_105, ey_105, eq_97⟩ := bindS eq_97
              obtain ⟨x_111, ex_111, eq_97⟩ := bindS eq_97
              obtain ⟨x_112, ex_112, eq_97⟩ := bindS eq_97
              exact ⟨y_99, y_105, x_111, x_112, ⟨fun _ => ⟨ey_99, ey_105, ex_111, ex_112, Option.some.inj eq_97⟩, fun k_ => absurd hc k_⟩⟩
            · rw [if_neg hc] at eq_97
              exact ⟨default, default, default, default, ⟨fun k_ => absurd k_ hc, fun _ => Option.some.inj eq_97⟩⟩
          obtain ⟨q_113, eq_113, h⟩ := bindS h
          obtain ⟨y_115, HG_114⟩ : ∃ (y_115 : Int) , (q_97 = true → (idx x1.xs 4) = some y_115 ∧ (decide (y_115 > 0)) = q_113) ∧ (¬ q_97 = true → false = q_113) := by
            by_cases hc : q_97 = true
            · rw [if_pos hc] at eq_113
              obtain ⟨y_115, ey_115, eq_113⟩ := bindS eq_113
              exact ⟨y_115, ⟨fun _ => ⟨ey_115, Option.some.inj eq_113⟩, fun k_ => absurd hc k_⟩⟩
            · rw [if_neg hc] at eq_113
              exact ⟨default, ⟨fun k_ => absurd k_ hc, fun _ => Option.some.inj eq_113⟩⟩
          obtain ⟨q_121, eq_121, h⟩ := bindS h
          obtain ⟨y_123, HG_122⟩ : ∃ (y_123 : Int) , (q_113 = true → (idx x1.xs 4) = some y_123 ∧ (decide (y_123 < 17)) = q_121) ∧ (¬ q_113 = true → false = q_121) := by
            by_cases hc : q_113 = true
            · rw [if_pos hc] at eq_121
              obtain ⟨y_123, ey_123, eq_121⟩ := bindS eq_121
              exact ⟨y_123, ⟨fun _ => ⟨ey_123, Option.some.inj eq_121⟩, fun k_ => absurd hc k_⟩⟩
            · rw [if_neg hc] at eq_121
              exact ⟨default, ⟨fun k_ => absurd k_ hc, fun _ => Option.some.inj eq_121⟩⟩
          obtain ⟨q_129, eq_129, h⟩ := bindS h
          obtain ⟨y_131, HG_130⟩ : ∃ (y_131 : Int) , (q_121 = true → (idx x1.xs 5) = some y_131 ∧ (decide (y_131 > 0)) = q_129) ∧ (¬ q_121 = true → false = q_129) := by
            by_cases hc : q_121 = true
            · rw [if_pos hc] at eq_129
              obtain ⟨y_131, ey_131, eq_129⟩ := bindS eq_129
              exact ⟨y_131, ⟨fun _ => ⟨ey_131, Option.some.inj eq_129⟩, fun k_ => absurd hc k_⟩⟩
            · rw [if_neg hc] at eq_129
              exact ⟨default, ⟨fun k_ => absurd k_ hc, fun _ => Option.some.inj eq_129⟩⟩
          obtain ⟨q_137, eq_137, h⟩ := bindS h
          obtain ⟨y_139, HG_138⟩ : ∃ (y_139 : Int) , (q_129 = true → (idx x1.xs 7) = some y_139 ∧ (decide (y_139 ≥ 128)) = q_137) ∧ (¬ q_129 = true → false = q_137) := by
            by_cases hc : q_129 = true
            · rw [if_pos hc] at eq_137
              obtain ⟨y_139, ey_139, eq_137⟩ := bindS eq_137
              exact ⟨y_139, ⟨fun _ => ⟨ey_139, Option.some.inj eq_137⟩, fun k_ => absurd hc k_⟩⟩
            · rw [if_neg hc] at eq_137
              exact ⟨default, ⟨fun k_ => absurd k_ hc, fun _ => Option.some.inj eq_137⟩⟩
          obtain ⟨q_145, eq_145, h⟩ := bindS h
          obtain ⟨y_147, x_153, HG_146⟩ : ∃ (y_147 : Int) (x_153 : Int) , (q_137 = true → (idx x1.xs 7) = some y_147 ∧ (remI .u8 y_147 32) = some x_153 ∧ (x_153 == 0) = q_145) ∧ (¬ q_137 = true → false = q_145) := by
            by_cases hc : q_137 = true
            · rw [if_pos hc] at eq_145
              obtain ⟨y_147, ey_147, eq_145⟩ := bindS eq_145
              obtain ⟨x_153, ex_153, eq_145⟩ := bindS eq_145
              exact ⟨y_147, x_153, ⟨fun _ => ⟨ey_147, ex_153, Option.some.inj eq_145⟩, fun k_ => absurd hc k_⟩⟩
            · rw [if_neg hc] at eq_145
              exact ⟨default, default, ⟨fun k_ => absurd k_ hc, fun _ => Option.some.inj eq_145⟩⟩
          obtain ⟨q_154, eq_154, h⟩ := bindS h
          obtain ⟨y_156, HG_155⟩ : ∃ (y_156 : Int) , (q_145 = true → (idx x1.xs 8) = some y_156 ∧ (decide (y_156 < 251)) = q_154) ∧ (¬ q_145 = true → false = q_154) := by
            by_cases hc : q_145 = true
            · rw [if_pos hc] at eq_154
              obtain ⟨y_156, ey_156, eq_154⟩ := bindS eq_154
              exact ⟨y_156, ⟨fun _ => ⟨ey_156, Option.some.inj eq_154⟩, fun k_ => absurd hc k_⟩⟩
            · rw [if_neg hc] at eq_154
              exact ⟨default, ⟨fun k_ => absurd k_ hc, fun _ => Option.some.inj eq_154⟩⟩
          have hR : Rel (Kx K w.heap.size [some b_58, some b_39, some b_1]) Bl := Bl.rel _
          refine wp_region_all hR [isRep (.sl (.int .u8)) (Kx K w.heap.size [some b_58, some b_39, some b_1]) x1, isI .i64 (lenI x1), eqv (.bool ((lenI x1) == 9)), eqv (.bool ((lenI x1) == 9)), cndF ((lenI x1) == 9) true (isRep (.sl (.int .u8)) (Kx K w.heap.size [some b_58, some b_39, some b_1]) x1), cndF ((lenI x1) == 9) true (isEl (.int .u8) (Kx K w.heap.size [some b_58, some b_39, some b_1]) y_67), cndF ((lenI x1) == 9) true (isI .u8 y_67), cndF ((lenI x1) == 9) true (eqv (.bool (y_67 == 9))), eqv (.bool q_65), eqv (.bool q_65), cndF q_65 true (isRep (.sl (.int .u8)) (Kx K w.heap.size [some b_58, some b_39, some b_1]) x1), cndF q_65 true (isEl (.int .u8) (Kx K w.heap.size [some b_58, some b_39, some b_1]) y_75), cndF q_65 true (isI .u8 y_75), cndF q_65 true (eqv (.bool (y_75 == 2))), eqv (.bool q_73), eqv (.bool q_73), cndF q_73 true (isRep (.sl (.int .u8)) (Kx K w.heap.size [some b_58, some b_39, some b_1]) x1), cndF q_73 true (isEl (.int .u8) (Kx K w.heap.size [some b_58, some b_39, some b_1]) y_83), cndF q_73 true (isI .u8 y_83), cndF q_73 true (isI .i64 y_83), cndF q_73 true (isRep (.sl (.int .u8)) (Kx K w.heap.size [some b_58, some b_39, some b_1]) x1), cndF q_73 true (isEl (.int .u8) (Kx K w.heap.size [some b_58, some b_39, some b_1]) y_89), cndF q_73 true (isI .u8 y_89), cndF q_73 true (isI .i64 y_89), cndF q_73 true (isI .i64 x_95), cndF q_73 true (isI .i64 x_96), cndF q_73 true (eqv (.bool (decide (x_96 ≥ 9)))), eqv (.bool q_81), eqv (.bool q_81), cndF q_81 true (isRep (.sl (.int .u8)) (Kx K w.heap.size [some b_58, some b_39, some b_1]) x1), cndF q_81 true (isEl (.int .u8) (Kx K w.heap.size [some b_58, some b_39, some b_1]) y_99), cndF q_81 true (isI .u8 y_99), cndF q_81 true (isI .i64 y_99), cndF q_81 true (isRep (.sl (.int .u8)) (Kx K w.heap.size [some b_58, some b_39, some b_1]) x1), cndF q_81 true (isEl (.int .u8) (Kx K w.heap.size [some b_58, some b_39, some b_1]) y_105), cndF q_81 true (isI .u8 y_105), cndF q_81 true (isI .i64 y_105), cndF q_81 true (isI .i64 x_111), cndF q_81 true (isI .i64 x_112), cndF q_81 true (eqv (.bool (decide (x_112 ≤ 4096)))), eqv (.bool q_97), eqv (.bool q_97), cndF q_97 true (isRep (.sl (.int .u8)) (Kx K w.heap.size [some b_58, some b_39, some b_1]) x1), cndF q_97 true (isEl (.int .u8) (Kx K w.heap.size [some b_58, some b_39, some b_1]) y_115), cndF q_97 true (isI .u8 y_115), cndF q_97 true (eqv (.bool (decide (y_115 > 0)))), eqv (.bool q_113), eqv (.bool q_113), cndF q_113 true (isRep (.sl (.int .u8)) (Kx K w.heap.size [some b_58, some b_39, some b_1]) x1), cndF q_113 true (isEl (.int .u8) (Kx K w.heap.size [some b_58, some b_39, some b_1]) y_123), cndF q_113 true (isI .u8 y_123), cndF q_113 true (eqv (.bool (decide (y_123 < 17)))), eqv (.bool q_121), eqv (.bool q_121), cndF q_121 true (isRep (.sl (.int .u8)) (Kx K w.heap.size [some b_58, some b_39, some b_1]) x1), cndF q_121 true (isEl (.int .u8) (Kx K w.heap.size [some b_58, some b_39, some b_1]) y_131), cndF q_121 true (isI .u8 y_131), cndF q_121 true (eqv (.bool (decide (y_131 > 0)))), eqv (.bool q_129), eqv (.bool q_129), cndF q_129 true (isRep (.sl (.int .u8)) (Kx K w.heap.size [some b_58, some b_39, some b_1]) x1), cndF q_129 true (isEl (.int .u8) (Kx K w.heap.size [some b_58, some b_39, some b_1]) y_139), cndF q_129 true (isI .u8 y_139), cndF q_129 true (eqv (.bool (decide (y_139 ≥ 128)))), eqv (.bool q_137), eqv (.bool q_137), cndF q_137 true (isRep (.sl (.int .u8)) (Kx K w.heap.size [some b_58, some b_39, some b_1]) x1), cndF q_137 true (isEl (.int .u8) (Kx K w.heap.size [some b_58, some b_39, some b_1]) y_147), cndF q_137 true (isI .u8 y_147), cndF q_137 true (isI .u8 x_153), cndF q_137 true (eqv (.bool (x_153 == 0))), eqv (.bool q_145), eqv (.bool q_145), cndF q_145 true (isRep (.sl (.int .u8)) (Kx K w.heap.size [some b_58, some b_39, some b_1]) x1), cndF q_145 true (isEl (.int .u8) (Kx K w.heap.size [some b_58, some b_39, some b_1]) y_156), cndF q_145 true (isI .u8 y_156), cndF q_145 true (eqv (.bool (decide (y_156 < 251)))), eqv (.bool q_154), eqv (.bool q_154)] [[], [(0, 50)], [(1, 51)], [(2, 52)], [(3, 53)], [(4, 54), (3, 53)], [(5, 55), (3, 53)], [(6, 56), (3, 53)], [(3, 53), (7, 57)], [(8, 58)], [(9, 59)], [(10, 60), (9, 59)], [(11, 61), (9, 59)], [(12, 62), (9, 59)], [(9, 59), (13, 63)], [(14, 64)], [(15, 65)], [(16, 66), (15, 65)], [(17, 67), (15, 65)], [(18, 68), (15, 65)], [(15, 65)], [(20, 70), (15, 65)], [(21, 71), (15, 65)], [(22, 72), (15, 65)], [(23, 73), (15, 65)], [(19, 69), (24, 74), (15, 65)], [(25, 75), (15, 65)], [(15, 65), (26, 76)], [(27, 77)], [(28, 78)], [(29, 79), (28, 78)], [(30, 80), (28, 78)], [(31, 81), (28, 78)], [(28, 78)], [(33, 83), (28, 78)], [(34, 84), (28, 78)], [(35, 85), (28, 78)], [(36, 86), (28, 78)], [(32, 82), (37, 87), (28, 78)], [(38, 88), (28, 78)], [(28, 78), (39, 89)], [(40, 90)], [(41, 91)], [(42, 92), (41, 91)], [(43, 93), (41, 91)], [(44, 94), (41, 91)], [(41, 91), (45, 95)], [(46, 96)], [(47, 97)], [(48, 98), (47, 97)], [(49, 99), (47, 97)], [(50, 100), (47, 97)], [(47, 97), (51, 101)], [(52, 102)], [(53, 103)], [(54, 104), (53, 103)], [(55, 105), (53, 103)], [(56, 106), (53, 103)], [(53, 103), (57, 107)], [(58, 108)], [(59, 109)], [(60, 110), (59, 109)], [(61, 111), (59, 109)], [(62, 112), (59, 109)], [(59, 109), (63, 113)], [(64, 114)], [(65, 115)], [(66, 116), (65, 115)], [(67, 117), (65, 115)], [(68, 118), (65, 115)], [(69, 119), (65, 115)], [(65, 115), (70, 120)], [(71, 121)], [(72, 122)], [(73, 123), (72, 122)], [(74, 124), (72, 122)], [(75, 125), (72, 122)], [(72, 122), (76, 126)], [(77, 127)]] (by kernel_rfl) (by rw [S.size]; kernel_rfl) (by kernel_rfl) (by kernel_rfl) rfl ⟨(stab_rep hR), stab_I, (stab_eqv _), (stab_eqv _), (stab_cnd (stab_rep hR)), (stab_cnd (stab_el hR)), (stab_cnd stab_I), (stab_cnd (stab_eqv _)), (stab_eqv _), (stab_eqv _), (stab_cnd (stab_rep hR)), (stab_cnd (stab_el hR)), (stab_cnd stab_I), (stab_cnd (stab_eqv _)), (stab_eqv _), (stab_eqv _), (stab_cnd (stab_rep hR)), (stab_cnd (stab_el hR)), (stab_cnd stab_I), (stab_cnd stab_I), (stab_cnd (stab_rep hR)), (stab_cnd (stab_el hR)), (stab_cnd stab_I), (stab_cnd stab_I), (stab_cnd stab_I), (stab_cnd stab_I), (stab_cnd (stab_eqv _)), (stab_eqv _), (stab_eqv _), (stab_cnd (stab_rep hR)), (stab_cnd (stab_el hR)), (stab_cnd stab_I), (stab_cnd stab_I), (stab_cnd (stab_rep hR)), (stab_cnd (stab_el hR)), (stab_cnd stab_I), (stab_cnd stab_I), (stab_cnd stab_I), (stab_cnd stab_I), (stab_cnd (stab_eqv _)), (stab_eqv _), (stab_eqv _), (stab_cnd (stab_rep hR)), (stab_cnd (stab_el hR)), (stab_cnd stab_I), (stab_cnd (stab_eqv _)), (stab_eqv _), (stab_eqv _), (stab_cnd (stab_rep hR)), (stab_cnd (stab_el hR)), (stab_cnd stab_I), (stab_cnd (stab_eqv _)), (stab_eqv _), (stab_eqv _), (stab_cnd (stab_rep hR)), (stab_cnd (stab_el hR)), (stab_cnd stab_I), (stab_cnd (stab_eqv _)), (stab_eqv _), (stab_eqv _), (stab_cnd (stab_rep hR)), (stab_cnd (stab_el hR)), (stab_cnd stab_I), (stab_cnd (stab_eqv _)), (stab_eqv _), (stab_eqv _), (stab_cnd (stab_rep hR)), (stab_cnd (stab_el hR)), (stab_cnd stab_I), (stab_cnd stab_I), (stab_cnd (stab_eqv _)), (stab_eqv _), (stab_eqv _), (stab_cnd (stab_rep hR)), (stab_cnd (stab_el hR)), (stab_cnd stab_I), (stab_cnd (stab_eqv _)), (stab_eqv _), (stab_eqv _), trivial⟩ ?_ ?_
          ·
            refine RunAll.cons (isRep (.sl (.int .u8)) (Kx K w.heap.size [some b_58, some b_39, some b_1]) x1) [] rfl rfl ?_ ?_
            · intro W_ hW
              have S1 := S
              refine fill_nil S1 ?_; clear S1; intro a_ S1
              replace R1 := R1.step hW
              have S0 := S.defers; replace S := S1; clear S1
              refine wl_pure (l' := [(50, v1), (49, .bool (t_51.2 != 0)), (10, .int .i64 t_51.2), (9, .pointer (some (⟨b_58, 0, .none⟩ : Addr))), (1, v1)]) S tys tys_ok 1 (by kernel_rfl) ?_; clear S; intro a S
              refine wpList_nil ?_
              exact RPost.mk_ S rfl S0 R1 (Below.refl _ _)
            refine RunAll.cons (isI .i64 (lenI x1)) [(isRep (.sl (.int .u8)) (Kx K w.heap.size [some b_58, some b_39, some b_1]) x1, 50)] rfl rfl ?_ ?_
            · intro W_ hW
              have S1 := S
              intro v_163 hF_162; replace hF_162 : RepV _ _ _ _ _ := hF_162
              replace S1 := S1.put (by decide : 50 < 152) (v_163)
              refine fill_nil S1 ?_; clear S1; intro a_ S1
              replace W := W.step hW
              have S0 := S.defers; replace S := S1; clear S1
              refine w_go S rfl (op_len (K := _) S rfl ty23 rfl rfl rfl hF_162 ?_)
              clear S; intro a G_164 S
              refine wpList_nil ?_
              exact RPost.mk_ S rfl S0 ⟨rfl, G_164⟩ (Below.refl _ _)
            refine RunAll.cons (eqv (.bool ((lenI x1) == 9))) [(isI .i64 (lenI x1), 51)] rfl rfl ?_ ?_
            · intro W_ hW
              have S1 := S
              rintro _ ⟨rfl, hF_165⟩
              replace S1 := S1.put (by decide : 51 < 152) (.int .i64 (lenI x1))
              refine fill_nil S1 ?_; clear S1; intro a_ S1
              have S0 := S.defers; replace S := S1; clear S1
              refine wl_pure (l' := [(52, .bool ((lenI x1) == 9)), (51, .int .i64 (lenI x1)), (49, .bool (t_51.2 != 0)), (10, .int .i64 t_51.2), (9, .pointer (some (⟨b_58, 0, .none⟩ : Addr))), (1, v1)]) S tys tys_ok 1 (by kernel_rfl) ?_; clear S; intro a S
              refine wpList_nil ?_
              exact RPost.mk_ S rfl S0 rfl (Below.refl _ _)
            refine RunAll.cons (eqv (.bool ((lenI x1) == 9))) [(eqv (.bool ((lenI x1) == 9)), 52)] rfl rfl ?_ ?_
            · intro W_ hW
              have S1 := S
              intro v_168 hF_167; obtain rfl : v_168 = .bool ((lenI x1) == 9) := hF_167
              replace S1 := S1.put (by decide : 52 < 152) (.bool ((lenI x1) == 9))
              refine fill_nil S1 ?_; clear S1; intro a_ S1
              have S0 := S.defers; replace S := S1; clear S1
              refine wl_pure (l' := [(53, .bool ((lenI x1) == 9)), (52, .bool ((lenI x1) == 9)), (49, .bool (t_51.2 != 0)), (10, .int .i64 t_51.2), (9, .pointer (some (⟨b_58, 0, .none⟩ : Addr))), (1, v1)]) S tys tys_ok 1 (by kernel_rfl) ?_; clear S; intro a S
              refine wpList_nil ?_
              exact RPost.mk_ S rfl S0 rfl (Below.refl _ _)
            refine RunAll.cons (cndF ((lenI x1) == 9) true (isRep (.sl (.int .u8)) (Kx K w.heap.size [some b_58, some b_39, some b_1]) x1)) [(eqv (.bool ((lenI x1) == 9)), 53)] rfl rfl ?_ ?_
            · intro W_ hW
              by_cases hc0 : ((lenI x1) == 9) = true
              · have hl0 : ((lenI x1) == 9) = true := hc0
                have S1 := S
                intro v_170 hF_169; obtain rfl : v_170 = .bool ((lenI x1) == 9) := hF_169
                replace S1 := S1.put (by decide : 53 < 152) (.bool ((lenI x1) == 9))
                refine fill_nil S1 ?_; clear S1; intro a_ S1
                replace R1 := R1.step hW
                rw [show ((lenI x1) == 9) = true from hl0] at S1
                have S0 := S.defers; replace S := S1; clear S1
                refine wl_pure (l' := [(54, v1), (53, .bool true), (49, .bool (t_51.2 != 0)), (10, .int .i64 t_51.2), (9, .pointer (some (⟨b_58, 0, .none⟩ : Addr))), (1, v1)]) S tys tys_ok 1 (by kernel_rfl) ?_; clear S; intro a S
                refine wpList_nil ?_
                exact RPost.mk_ S rfl S0 ⟨fun _ => R1, fun k_ => absurd hc0 k_⟩ (Below.refl _ _)
              · have hl0 : ((lenI x1) == 9) = false := Bool.eq_false_iff.2 hc0
                have S1 := S
                intro v_172 hF_171; obtain rfl : v_172 = .bool ((lenI x1) == 9) := hF_171
                replace S1 := S1.put (by decide : 53 < 152) (.bool ((lenI x1) == 9))
                refine fill_nil S1 ?_; clear S1; intro a_ S1
                rw [show ((lenI x1) == 9) = false from hl0] at S1
                have S0 := S.defers; replace S := S1; clear S1
                refine wl_pure (l' := [(54, undef), (53, .bool false), (49, .bool (t_51.2 != 0)), (10, .int .i64 t_51.2), (9, .pointer (some (⟨b_58, 0, .none⟩ : Addr))), (1, v1)]) S tys tys_ok 1 (by kernel_rfl) ?_; clear S; intro a S
                refine wpList_nil ?_
                exact RPost.mk_ S rfl S0 ⟨fun k_ => absurd k_ hc0, fun _ => rfl⟩ (Below.refl _ _)
            refine RunAll.cons (cndF ((lenI x1) == 9) true (isEl (.int .u8) (Kx K w.heap.size [some b_58, some b_39, some b_1]) y_67)) [(cndF ((lenI x1) == 9) true (isRep (.sl (.int .u8)) (Kx K w.heap.size [some b_58, some b_39, some b_1]) x1), 54), (eqv (.bool ((lenI x1) == 9)), 53)] rfl rfl ?_ ?_
            · intro W_ hW
              by_cases hc0 : ((lenI x1) == 9) = true
              · have hl0 : ((lenI x1) == 9) = true := hc0
                have S1 := S
                intro v_173 hF_174
                replace hF_174 := cndF.pos hF_174 hc0
                revert hF_174
                revert v_173
                intro v_176 hF_175; replace hF_175 : RepV _ _ _ _ _ := hF_175
                replace S1 := S1.put (by decide : 54 < 152) (v_176)
                intro v_178 hF_177; obtain rfl : v_178 = .bool ((lenI x1) == 9) := hF_177
                replace S1 := S1.put (by decide : 53 < 152) (.bool ((lenI x1) == 9))
                refine fill_nil S1 ?_; clear S1; intro a_ S1
                rw [show ((lenI x1) == 9) = true from hl0] at S1
                have S0 := S.defers; replace S := S1; clear S1
                obtain ⟨ey_67, _⟩ := (HG_66).1 hc0
                refine w_go S rfl (op_indexAddr S rfl ty23 rfl rfl rfl hF_175 rfl ey_67 ?_)
                clear S; intro a p_179 R_180 H_181 S
                refine wpList_nil ?_
                exact RPost.mk_ S rfl S0 ⟨fun _ => ⟨_, rfl, R_180, H_181⟩, fun k_ => absurd hc0 k_⟩ (Below.refl _ _)
              · have hl0 : ((lenI x1) == 9) = false := Bool.eq_false_iff.2 hc0
                have S1 := S
                intro v_182 hF_183
                obtain rfl := cndF.neg hF_183 hc0
                replace S1 := S1.put (by decide : 54 < 152) (undef)
                intro v_185 hF_184; obtain rfl : v_185 = .bool ((lenI x1) == 9) := hF_184
                replace S1 := S1.put (by decide : 53 < 152) (.bool ((lenI x1) == 9))
                refine fill_nil S1 ?_; clear S1; intro a_ S1
                rw [show ((lenI x1) == 9) = false from hl0] at S1
                have S0 := S.defers; replace S := S1; clear S1
                refine wl_pure (l' := [(55, undef), (53, .bool false), (54, undef), (49, .bool (t_51.2 != 0)), (10, .int .i64 t_51.2), (9, .pointer (some (⟨b_58, 0, .none⟩ : Addr))), (1, v1)]) S tys tys_ok 1 (by kernel_rfl) ?_; clear S; intro a S
                refine wpList_nil ?_
                exact RPost.mk_ S rfl S0 ⟨fun k_ => absurd k_ hc0, fun _ => rfl⟩ (Below.refl _ _)
            refine RunAll.cons (cndF ((lenI x1) == 9) true (isI .u8 y_67)) [(cndF ((lenI x1) == 9) true (isEl (.int .u8) (Kx K w.heap.size [some b_58, some b_39, some b_1]) y_67), 55), (eqv (.bool ((lenI x1) == 9)), 53)] rfl rfl ?_ ?_
            · intro W_ hW
              by_cases hc0 : ((lenI x1) == 9) = true
              · have hl0 : ((lenI x1) == 9) = true := hc0
                have S1 := S
                intro v_186 hF_187
                replace hF_187 := cndF.pos hF_187 hc0
                revert hF_187
                revert v_186
                rintro _ ⟨p_190, rfl, R_191, H_192⟩
                replace S1 := S1.put (by decide : 55 < 152) (.pointer (some p_190))
                intro v_194 hF_193; obtain rfl : v_194 = .bool ((lenI x1) == 9) := hF_193
                replace S1 := S1.put (by decide : 53 < 152) (.bool ((lenI x1) == 9))
                refine fill_nil S1 ?_; clear S1; intro a_ S1
                rw [show ((lenI x1) == 9) = true from hl0] at S1
                have S0 := S.defers; replace S := S1; clear S1
                obtain ⟨ey_67, _⟩ := (HG_66).1 hc0
                refine w_go S rfl (op_load (t := (.int .u8)) (x := y_67) S rfl ty5 rfl rfl rfl R_191 ?_)
                clear S; intro a v_195 R_196 S
                obtain ⟨rfl, GR_196⟩ := RepV.int R_196
                refine wpList_nil ?_
                exact RPost.mk_ S rfl S0 ⟨fun _ => ⟨rfl, GR_196⟩, fun k_ => absurd hc0 k_⟩ (Below.refl _ _)
              · have hl0 : ((lenI x1) == 9) = false := Bool.eq_false_iff.2 hc0
                have S1 := S
                intro v_197 hF_198
                obtain rfl := cndF.neg hF_198 hc0
                replace S1 := S1.put (by decide : 55 < 152) (undef)
                intro v_200 hF_199; obtain rfl : v_200 = .bool ((lenI x1) == 9) := hF_199
                replace S1 := S1.put (by decide : 53 < 152) (.bool ((lenI x1) == 9))
                refine fill_nil S1 ?_; clear S1; intro a_ S1
                rw [show ((lenI x1) == 9) = false from hl0] at S1
                have S0 := S.defers; replace S := S1; clear S1
                refine wl_pure (l' := [(56, undef), (53, .bool false), (55, undef), (49, .bool (t_51.2 != 0)), (10, .int .i64 t_51.2), (9, .pointer (some (⟨b_58, 0, .none⟩ : Addr))), (1, v1)]) S tys tys_ok 1 (by kernel_rfl) ?_; clear S; intro a S
                refine wpList_nil ?_
                exact RPost.mk_ S rfl S0 ⟨fun k_ => absurd k_ hc0, fun _ => rfl⟩ (Below.refl _ _)
            refine RunAll.cons (cndF ((lenI x1) == 9) true (eqv (.bool (y_67 == 9)))) [(cndF ((lenI x1) == 9) true (isI .u8 y_67), 56), (eqv (.bool ((lenI x1) == 9)), 53)] rfl rfl ?_ ?_
            · intro W_ hW
              by_cases hc0 : ((lenI x1) == 9) = true
              · have hl0 : ((lenI x1) == 9) = true := hc0
                have S1 := S
                intro v_201 hF_202
                replace hF_202 := cndF.pos hF_202 hc0
                revert hF_202
                revert v_201
                rintro _ ⟨rfl, hF_203⟩
                replace S1 := S1.put (by decide : 56 < 152) (.int .u8 y_67)
                intro v_206 hF_205; obtain rfl : v_206 = .bool ((lenI x1) == 9) := hF_205
                replace S1 := S1.put (by decide : 53 < 152) (.bool ((lenI x1) == 9))
                refine fill_nil S1 ?_; clear S1; intro a_ S1
                rw [show ((lenI x1) == 9) = true from hl0] at S1
                have S0 := S.defers; replace S := S1; clear S1
                refine wl_pure (l' := [(57, .bool (y_67 == 9)), (53, .bool true), (56, .int .u8 y_67), (49, .bool (t_51.2 != 0)), (10, .int .i64 t_51.2), (9, .pointer (some (⟨b_58, 0, .none⟩ : Addr))), (1, v1)]) S tys tys_ok 1 (by kernel_rfl) ?_; clear S; intro a S
                refine wpList_nil ?_
                exact RPost.mk_ S rfl S0 ⟨fun _ => rfl, fun k_ => absurd hc0 k_⟩ (Below.refl _ _)
              · have hl0 : ((lenI x1) == 9) = false := Bool.eq_false_iff.2 hc0
                have S1 := S
                intro v_207 hF_208
                obtain rfl := cndF.neg hF_208 hc0
                replace S1 := S1.put (by decide : 56 < 152) (undef)
                intro v_210 hF_209; obtain rfl : v_210 = .bool ((lenI x1) == 9) := hF_209
                replace S1 := S1.put (by decide : 53 < 152) (.bool ((lenI x1) == 9))
                refine fill_nil S1 ?_; clear S1; intro a_ S1
                rw [show ((lenI x1) == 9) = false from hl0] at S1
                have S0 := S.defers; replace S := S1; clear S1
                refine wl_pure (l' := [(57, undef), (53, .bool false), (56, undef), (49, .bool (t_51.2 != 0)), (10, .int .i64 t_51.2), (9, .pointer (some (⟨b_58, 0, .none⟩ : Addr))), (1, v1)]) S tys tys_ok 1 (by kernel_rfl) ?_; clear S; intro a S
                refine wpList_nil ?_
                exact RPost.mk_ S rfl S0 ⟨fun k_ => absurd k_ hc0, fun _ => rfl⟩ (Below.refl _ _)
            refine RunAll.cons (eqv (.bool q_65)) [(eqv (.bool ((lenI x1) == 9)), 53), (cndF ((lenI x1) == 9) true (eqv (.bool (y_67 == 9))), 57)] rfl rfl ?_ ?_
            · intro W_ hW
              by_cases hc0 : ((lenI x1) == 9) = true
              · have hl0 : ((lenI x1) == 9) = true := hc0
                have S1 := S
                intro v_212 hF_211; obtain rfl : v_212 = .bool ((lenI x1) == 9) := hF_211
                replace S1 := S1.put (by decide : 53 < 152) (.bool ((lenI x1) == 9))
                intro v_213 hF_214
                replace hF_214 := cndF.pos hF_214 hc0
                revert hF_214
                revert v_213
                intro v_216 hF_215; obtain rfl : v_216 = .bool (y_67 == 9) := hF_215
                replace S1 := S1.put (by decide : 57 < 152) (.bool (y_67 == 9))
                refine fill_nil S1 ?_; clear S1; intro a_ S1
                rw [show ((lenI x1) == 9) = true from hl0] at S1
                have S0 := S.defers; replace S := S1; clear S1
                refine wl_pure (l' := [(58, .bool (y_67 == 9)), (57, .bool (y_67 == 9)), (53, .bool true), (49, .bool (t_51.2 != 0)), (10, .int .i64 t_51.2), (9, .pointer (some (⟨b_58, 0, .none⟩ : Addr))), (1, v1)]) S tys tys_ok 1 (by kernel_rfl) ?_; clear S; intro a S
                refine wpList_nil ?_
                exact RPost.mk_ S rfl S0 (congrArg Value.bool ((HG_66).1 hc0).2) (Below.refl _ _)
              · have hl0 : ((lenI x1) == 9) = false := Bool.eq_false_iff.2 hc0
                have S1 := S
                intro v_218 hF_217; obtain rfl : v_218 = .bool ((lenI x1) == 9) := hF_217
                replace S1 := S1.put (by decide : 53 < 152) (.bool ((lenI x1) == 9))
                intro v_219 hF_220
                obtain rfl := cndF.neg hF_220 hc0
                replace S1 := S1.put (by decide : 57 < 152) (undef)
                refine fill_nil S1 ?_; clear S1; intro a_ S1
                rw [show ((lenI x1) == 9) = false from hl0] at S1
                have S0 := S.defers; replace S := S1; clear S1
                refine wl_pure (l' := [(58, .bool false), (57, undef), (53, .bool false), (49, .bool (t_51.2 != 0)), (10, .int .i64 t_51.2), (9, .pointer (some (⟨b_58, 0, .none⟩ : Addr))), (1, v1)]) S tys tys_ok 1 (by kernel_rfl) ?_; clear S; intro a S
                refine wpList_nil ?_
                exact RPost.mk_ S rfl S0 (congrArg Value.bool ((HG_66).2 hc0)) (Below.refl _ _)
            refine RunAll.cons (eqv (.bool q_65)) [(eqv (.bool q_65), 58)] rfl rfl ?_ ?_
            · intro W_ hW
              have S1 := S
              intro v_222 hF_221; obtain rfl : v_222 = .bool q_65 := hF_221
              replace S1 := S1.put (by decide : 58 < 152) (.bool q_65)
              refine fill_nil S1 ?_; clear S1; intro a_ S1
              have S0 := S.defers; replace S := S1; clear S1
              refine wl_pure (l' := [(59, .bool q_65), (58, .bool q_65), (49, .bool (t_51.2 != 0)), (10, .int .i64 t_51.2), (9, .pointer (some (⟨b_58, 0, .none⟩ : Addr))), (1, v1)]) S tys tys_ok 1 (by kernel_rfl) ?_; clear S; intro a S
              refine wpList_nil ?_
              exact RPost.mk_ S rfl S0 rfl (Below.refl _ _)
            refine RunAll.cons (cndF q_65 true (isRep (.sl (.int .u8)) (Kx K w.heap.size [some b_58, some b_39, some b_1]) x1)) [(eqv (.bool q_65), 59)] rfl rfl ?_ ?_
            · intro W_ hW
              by_cases hc1 : q_65 = true
              · have hl1 : q_65 = true := hc1
                have S1 := S
                intro v_224 hF_223; obtain rfl : v_224 = .bool q_65 := hF_223
                replace S1 := S1.put (by decide : 59 < 152) (.bool q_65)
                refine fill_nil S1 ?_; clear S1; intro a_ S1
                replace R1 := R1.step hW
                rw [show q_65 = true from hl1] at S1
                have S0 := S.defers; replace S := S1; clear S1
                refine wl_pure (l' := [(60, v1), (59, .bool true), (49, .bool (t_51.2 != 0)), (10, .int .i64 t_51.2), (9, .pointer (some (⟨b_58, 0, .none⟩ : Addr))), (1, v1)]) S tys tys_ok 1 (by kernel_rfl) ?_; clear S; intro a S
                refine wpList_nil ?_
                exact RPost.mk_ S rfl S0 ⟨fun _ => R1, fun k_ => absurd hc1 k_⟩ (Below.refl _ _)
              · have hl1 : q_65 = false := Bool.eq_false_iff.2 hc1
                have S1 := S
                intro v_226 hF_225; obtain rfl : v_226 = .bool q_65 := hF_225
                replace S1 := S1.put (by decide : 59 < 152) (.bool q_65)
                refine fill_nil S1 ?_; clear S1; intro a_ S1
                rw [show q_65 = false from hl1] at S1
                have S0 := S.defers; replace S := S1; clear S1
                refine wl_pure (l' := [(60, undef), (59, .bool false), (49, .bool (t_51.2 != 0)), (10, .int .i64 t_51.2), (9, .pointer (some (⟨b_58, 0, .none⟩ : Addr))), (1, v1)]) S tys tys_ok 1 (by kernel_rfl) ?_; clear S; intro a S
                refine wpList_nil ?_
                exact RPost.mk_ S rfl S0 ⟨fun k_ => absurd k_ hc1, fun _ => rfl⟩ (Below.refl _ _)
            refine RunAll.cons (cndF q_65 true (isEl (.int .u8) (Kx K w.heap.size [some b_58, some b_39, some b_1]) y_75)) [(cndF q_65 true (isRep (.sl (.int .u8)) (Kx K w.heap.size [some b_58, some b_39, some b_1]) x1), 60), (eqv (.bool q_65), 59)] rfl rfl ?_ ?_
            · intro W_ hW
              by_cases hc1 : q_65 = true
              · have hl1 : q_65 = true := hc1
                have S1 := S
                intro v_227 hF_228
                replace hF_228 := cndF.pos hF_228 hc1
                revert hF_228
                revert v_227
                intro v_230 hF_229; replace hF_229 : RepV _ _ _ _ _ := hF_229
                replace S1 := S1.put (by decide : 60 < 152) (v_230)
                intro v_232 hF_231; obtain rfl : v_232 = .bool q_65 := hF_231
                replace S1 := S1.put (by decide : 59 < 152) (.bool q_65)
                refine fill_nil S1 ?_; clear S1; intro a_ S1
                rw [show q_65 = true from hl1] at S1
                have S0 := S.defers; replace S := S1; clear S1
                obtain ⟨ey_75, _⟩ := (HG_74).1 hc1
                refine w_go S rfl (op_indexAddr S rfl ty23 rfl rfl rfl hF_229 rfl ey_75 ?_)
                clear S; intro a p_233 R_234 H_235 S
                refine wpList_nil ?_
                exact RPost.mk_ S rfl S0 ⟨fun _ => ⟨_, rfl, R_234, H_235⟩, fun k_ => absurd hc1 k_⟩ (Below.refl _ _)
              · have hl1 : q_65 = false := Bool.eq_false_iff.2 hc1
                have S1 := S
                intro v_236 hF_237
                obtain rfl := cndF.neg hF_237 hc1
                replace S1 := S1.put (by decide : 60 < 152) (undef)
                intro v_239 hF_238; obtain rfl : v_239 = .bool q_65 := hF_238
                replace S1 := S1.put (by decide : 59 < 152) (.bool q_65)
                refine fill_nil S1 ?_; clear S1; intro a_ S1
                rw [show q_65 = false from hl1] at S1
                have S0 := S.defers; replace S := S1; clear S1
                refine wl_pure (l' := [(61, undef), (59, .bool false), (60, undef), (49, .bool (t_51.2 != 0)), (10, .int .i64 t_51.2), (9, .pointer (some (⟨b_58, 0, .none⟩ : Addr))), (1, v1)]) S tys tys_ok 1 (by kernel_rfl) ?_; clear S; intro a S
                refine wpList_nil ?_
                exact RPost.mk_ S rfl S0 ⟨fun k_ => absurd k_ hc1, fun _ => rfl⟩ (Below.refl _ _)
            refine RunAll.cons (cndF q_65 true (isI .u8 y_75)) [(cndF q_65 true (isEl (.int .u8) (Kx K w.heap.size [some b_58, some b_39, some b_1]) y_75), 61), (eqv (.bool q_65), 59)] rfl rfl ?_ ?_
            · intro W_ hW
              by_cases hc1 : q_65 = true
              · have hl1 : q_65 = true := hc1
                have S1 := S
                intro v_240 hF_241
                replace hF_241 := cndF.pos hF_241 hc1
                revert hF_241
                revert v_240
                rintro _ ⟨p_244, rfl, R_245, H_246⟩
                replace S1 := S1.put (by decide : 61 < 152) (.pointer (some p_244))
                intro v_248 hF_247; obtain rfl : v_248 = .bool q_65 := hF_247
                replace S1 := S1.put (by decide : 59 < 152) (.bool q_65)
                refine fill_nil S1 ?_; clear S1; intro a_ S1
                rw [show q_65 = true from hl1] at S1
                have S0 := S.defers; replace S := S1; clear S1
                obtain ⟨ey_75, _⟩ := (HG_74).1 hc1
                refine w_go S rfl (op_load (t := (.int .u8)) (x := y_75) S rfl ty5 rfl rfl rfl R_245 ?_)
                clear S; intro a v_249 R_250 S
                obtain ⟨rfl, GR_250⟩ := RepV.int R_250
                refine wpList_nil ?_
                exact RPost.mk_ S rfl S0 ⟨fun _ => ⟨rfl, GR_250⟩, fun k_ => absurd hc1 k_⟩ (Below.refl _ _)
              · have hl1 : q_65 = false := Bool.eq_false_iff.2 hc1
                have S1 := S
                intro v_251 hF_252
                obtain rfl := cndF.neg hF_252 hc1
                replace S1 := S1.put (by decide : 61 < 152) (undef)
                intro v_254 hF_253; obtain rfl : v_254 = .bool q_65 := hF_253
                replace S1 := S1.put (by decide : 59 < 152) (.bool q_65)
                refine fill_nil S1 ?_; clear S1; intro a_ S1
                rw [show q_65 = false from hl1] at S1
                have S0 := S.defers; replace S := S1; clear S1
                refine wl_pure (l' := [(62, undef), (59, .bool false), (61, undef), (49, .bool (t_51.2 != 0)), (10, .int .i64 t_51.2), (9, .pointer (some (⟨b_58, 0, .none⟩ : Addr))), (1, v1)]) S tys tys_ok 1 (by kernel_rfl) ?_; clear S; intro a S
                refine wpList_nil ?_
                exact RPost.mk_ S rfl S0 ⟨fun k_ => absurd k_ hc1, fun _ => rfl⟩ (Below.refl _ _)
            refine RunAll.cons (cndF q_65 true (eqv (.bool (y_75 == 2)))) [(cndF q_65 true (isI .u8 y_75), 62), (eqv (.bool q_65), 59)] rfl rfl ?_ ?_
            · intro W_ hW
              by_cases hc1 : q_65 = true
              · have hl1 : q_65 = true := hc1
                have S1 := S
                intro v_255 hF_256
                replace hF_256 := cndF.pos hF_256 hc1
                revert hF_256
                revert v_255
                rintro _ ⟨rfl, hF_257⟩
                replace S1 := S1.put (by decide : 62 < 152) (.int .u8 y_75)
                intro v_260 hF_259; obtain rfl : v_260 = .bool q_65 := hF_259
                replace S1 := S1.put (by decide : 59 < 152) (.bool q_65)
                refine fill_nil S1 ?_; clear S1; intro a_ S1
                rw [show q_65 = true from hl1] at S1
                have S0 := S.defers; replace S := S1; clear S1
                refine wl_pure (l' := [(63, .bool (y_75 == 2)), (59, .bool true), (62, .int .u8 y_75), (49, .bool (t_51.2 != 0)), (10, .int .i64 t_51.2), (9, .pointer (some (⟨b_58, 0, .none⟩ : Addr))), (1, v1)]) S tys tys_ok 1 (by kernel_rfl) ?_; clear S; intro a S
                refine wpList_nil ?_
                exact RPost.mk_ S rfl S0 ⟨fun _ => rfl, fun k_ => absurd hc1 k_⟩ (Below.refl _ _)
              · have hl1 : q_65 = false := Bool.eq_false_iff.2 hc1
                have S1 := S
                intro v_261 hF_262
                obtain rfl := cndF.neg hF_262 hc1
                replace S1 := S1.put (by decide : 62 < 152) (undef)
                intro v_264 hF_263; obtain rfl : v_264 = .bool q_65 := hF_263
                replace S1 := S1.put (by decide : 59 < 152) (.bool q_65)
                refine fill_nil S1 ?_; clear S1; intro a_ S1
                rw [show q_65 = false from hl1] at S1
                have S0 := S.defers; replace S := S1; clear S1
                refine wl_pure (l' := [(63, undef), (59, .bool false), (62, undef), (49, .bool (t_51.2 != 0)), (10, .int .i64 t_51.2), (9, .pointer (some (⟨b_58, 0, .none⟩ : Addr))), (1, v1)]) S tys tys_ok 1 (by kernel_rfl) ?_; clear S; intro a S
                refine wpList_nil ?_
                exact RPost.mk_ S rfl S0 ⟨fun k_ => absurd k_ hc1, fun _ => rfl⟩ (Below.refl _ _)
            refine RunAll.cons (eqv (.bool q_73)) [(eqv (.bool q_65), 59), (cndF q_65 true (eqv (.bool (y_75 == 2))), 63)] rfl rfl ?_ ?_
            · intro W_ hW
              by_cases hc1 : q_65 = true
              · have hl1 : q_65 = true := hc1
                have S1 := S
                intro v_266 hF_265; obtain rfl : v_266 = .bool q_65 := hF_265
                replace S1 := S1.put (by decide : 59 < 152) (.bool q_65)
                intro v_267 hF_268
                replace hF_268 := cndF.pos hF_268 hc1
                revert hF_268
                revert v_267
                intro v_270 hF_269; obtain rfl : v_270 = .bool (y_75 == 2) := hF_269
                replace S1 := S1.put (by decide : 63 < 152) (.bool (y_75 == 2))
                refine fill_nil S1 ?_; clear S1; intro a_ S1
                rw [show q_65 = true from hl1] at S1
                have S0 := S.defers; replace S := S1; clear S1
                refine wl_pure (l' := [(64, .bool (y_75 == 2)), (63, .bool (y_75 == 2)), (59, .bool true), (49, .bool (t_51.2 != 0)), (10, .int .i64 t_51.2), (9, .pointer (some (⟨b_58, 0, .none⟩ : Addr))), (1, v1)]) S tys tys_ok 1 (by kernel_rfl) ?_; clear S; intro a S
                refine wpList_nil ?_
                exact RPost.mk_ S rfl S0 (congrArg Value.bool ((HG_74).1 hc1).2) (Below.refl _ _)
              · have hl1 : q_65 = false := Bool.eq_false_iff.2 hc1
                have S1 := S
                intro v_272 hF_271; obtain rfl : v_272 = .bool q_65 := hF_271
                replace S1 := S1.put (by decide : 59 < 152) (.bool q_65)
                intro v_273 hF_274
                obtain rfl := cndF.neg hF_274 hc1
                replace S1 := S1.put (by decide : 63 < 152) (undef)
                refine fill_nil S1 ?_; clear S1; intro a_ S1
                rw [show q_65 = false from hl1] at S1
                have S0 := S.defers; replace S := S1; clear S1
                refine wl_pure (l' := [(64, .bool false), (63, undef), (59, .bool false), (49, .bool (t_51.2 != 0)), (10, .int .i64 t_51.2), (9, .pointer (some (⟨b_58, 0, .none⟩ : Addr))), (1, v1)]) S tys tys_ok 1 (by kernel_rfl) ?_; clear S; intro a S
                refine wpList_nil ?_
                exact RPost.mk_ S rfl S0 (congrArg Value.bool ((HG_74).2 hc1)) (Below.refl _ _)
            refine RunAll.cons (eqv (.bool q_73)) [(eqv (.bool q_73), 64)] rfl rfl ?_ ?_
            · intro W_ hW
              have S1 := S
              intro v_276 hF_275; obtain rfl : v_276 = .bool q_73 := hF_275
              replace S1 := S1.put (by decide : 64 < 152) (.bool q_73)
              refine fill_nil S1 ?_; clear S1; intro a_ S1
              have S0 := S.defers; replace S := S1; clear S1
              refine wl_pure (l' := [(65, .bool q_73), (64, .bool q_73), (49, .bool (t_51.2 != 0)), (10, .int .i64 t_51.2), (9, .pointer (some (⟨b_58, 0, .none⟩ : Addr))), (1, v1)]) S tys tys_ok 1 (by kernel_rfl) ?_; clear S; intro a S
              refine wpList_nil ?_
              exact RPost.mk_ S rfl S0 rfl (Below.refl _ _)
            refine RunAll.cons (cndF q_73 true (isRep (.sl (.int .u8)) (Kx K w.heap.size [some b_58, some b_39, some b_1]) x1)) [(eqv (.bool q_73), 65)] rfl rfl ?_ ?_
            · intro W_ hW
              by_cases hc2 : q_73 = true
              · have hl2 : q_73 = true := hc2
                have S1 := S
                intro v_278 hF_277; obtain rfl : v_278 = .bool q_73 := hF_277
                replace S1 := S1.put (by decide : 65 < 152) (.bool q_73)
                refine fill_nil S1 ?_; clear S1; intro a_ S1
                replace R1 := R1.step hW
                rw [show q_73 = true from hl2] at S1
                have S0 := S.defers; replace S := S1; clear S1
                refine wl_pure (l' := [(66, v1), (65, .bool true), (49, .bool (t_51.2 != 0)), (10, .int .i64 t_51.2), (9, .pointer (some (⟨b_58, 0, .none⟩ : Addr))), (1, v1)]) S tys tys_ok 1 (by kernel_rfl) ?_; clear S; intro a S
                refine wpList_nil ?_
                exact RPost.mk_ S rfl S0 ⟨fun _ => R1, fun k_ => absurd hc2 k_⟩ (Below.refl _ _)
              · have hl2 : q_73 = false := Bool.eq_false_iff.2 hc2
                have S1 := S
                intro v_280 hF_279; obtain rfl : v_280 = .bool q_73 := hF_279
                replace S1 := S1.put (by decide : 65 < 152) (.bool q_73)
                refine fill_nil S1 ?_; clear S1; intro a_ S1
                rw [show q_73 = false from hl2] at S1
                have S0 := S.defers; replace S := S1; clear S1
                refine wl_pure (l' := [(66, undef), (65, .bool false), (49, .bool (t_51.2 != 0)), (10, .int .i64 t_51.2), (9, .pointer (some (⟨b_58, 0, .none⟩ : Addr))), (1, v1)]) S tys tys_ok 1 (by kernel_rfl) ?_; clear S; intro a S
                refine wpList_nil ?_
                exact RPost.mk_ S rfl S0 ⟨fun k_ => absurd k_ hc2, fun _ => rfl⟩ (Below.refl _ _)
            refine RunAll.cons (cndF q_73 true (isEl (.int .u8) (Kx K w.heap.size [some b_58, some b_39, some b_1]) y_83)) [(cndF q_73 true (isRep (.sl (.int .u8)) (Kx K w.heap.size [some b_58, some b_39, some b_1]) x1), 66), (eqv (.bool q_73), 65)] rfl rfl ?_ ?_
            · intro W_ hW
              by_cases hc2 : q_73 = true
              · have hl2 : q_73 = true := hc2
                have S1 := S
                intro v_281 hF_282
                replace hF_282 := cndF.pos hF_282 hc2
                revert hF_282
                revert v_281
                intro v_284 hF_283; replace hF_283 : RepV _ _ _ _ _ := hF_283
                replace S1 := S1.put (by decide : 66 < 152) (v_284)
                intro v_286 hF_285; obtain rfl : v_286 = .bool q_73 := hF_285
                replace S1 := S1.put (by decide : 65 < 152) (.bool q_73)
                refine fill_nil S1 ?_; clear S1; intro a_ S1
                rw [show q_73 = true from hl2] at S1
                have S0 := S.defers; replace S := S1; clear S1
                obtain ⟨ey_83, ey_89, ex_95, ex_96, _⟩ := (HG_82).1 hc2
                refine w_go S rfl (op_indexAddr S rfl ty23 rfl rfl rfl hF_283 rfl ey_83 ?_)
                clear S; intro a p_287 R_288 H_289 S
                refine wpList_nil ?_
                exact RPost.mk_ S rfl S0 ⟨fun _ => ⟨_, rfl, R_288, H_289⟩, fun k_ => absurd hc2 k_⟩ (Below.refl _ _)
              · have hl2 : q_73 = false := Bool.eq_false_iff.2 hc2
                have S1 := S
                intro v_290 hF_291
                obtain rfl := cndF.neg hF_291 hc2
                replace S1 := S1.put (by decide : 66 < 152) (undef)
                intro v_293 hF_292; obtain rfl : v_293 = .bool q_73 := hF_292
                replace S1 := S1.put (by decide : 65 < 152) (.bool q_73)
                refine fill_nil S1 ?_; clear S1; intro a_ S1
                rw [show q_73 = false from hl2] at S1
                have S0 := S.defers; replace S := S1; clear S1
                refine wl_pure (l' := [(67, undef), (65, .bool false), (66, undef), (49, .bool (t_51.2 != 0)), (10, .int .i64 t_51.2), (9, .pointer (some (⟨b_58, 0, .none⟩ : Addr))), (1, v1)]) S tys tys_ok 1 (by kernel_rfl) ?_; clear S; intro a S
                refine wpList_nil ?_
                exact RPost.mk_ S rfl S0 ⟨fun k_ => absurd k_ hc2, fun _ => rfl⟩ (Below.refl _ _)
            refine RunAll.cons (cndF q_73 true (isI .u8 y_83)) [(cndF q_73 true (isEl (.int .u8) (Kx K w.heap.size [some b_58, some b_39, some b_1]) y_83), 67), (eqv (.bool q_73), 65)] rfl rfl ?_ ?_
            · intro W_ hW
              by_cases hc2 : q_73 = true
              · have hl2 : q_73 = true := hc2
                have S1 := S
                intro v_294 hF_295
                replace hF_295 := cndF.pos hF_295 hc2
                revert hF_295
                revert v_294
                rintro _ ⟨p_298, rfl, R_299, H_300⟩
                replace S1 := S1.put (by decide : 67 < 152) (.pointer (some p_298))
                intro v_302 hF_301; obtain rfl : v_302 = .bool q_73 := hF_301
                replace S1 := S1.put (by decide : 65 < 152) (.bool q_73)
                refine fill_nil S1 ?_; clear S1; intro a_ S1
                rw [show q_73 = true from hl2] at S1
                have S0 := S.defers; replace S := S1; clear S1
                obtain ⟨ey_83, ey_89, ex_95, ex_96, _⟩ := (HG_82).1 hc2
                refine w_go S rfl (op_load (t := (.int .u8)) (x := y_83) S rfl ty5 rfl rfl rfl R_299 ?_)
                clear S; intro a v_303 R_304 S
                obtain ⟨rfl, GR_304⟩ := RepV.int R_304
                refine wpList_nil ?_
                exact RPost.mk_ S rfl S0 ⟨fun _ => ⟨rfl, GR_304⟩, fun k_ => absurd hc2 k_⟩ (Below.refl _ _)
              · have hl2 : q_73 = false := Bool.eq_false_iff.2 hc2
                have S1 := S
                intro v_305 hF_306
                obtain rfl := cndF.neg hF_306 hc2
                replace S1 := S1.put (by decide : 67 < 152) (undef)
                intro v_308 hF_307; obtain rfl : v_308 = .bool q_73 := hF_307
                replace S1 := S1.put (by decide : 65 < 152) (.bool q_73)
                refine fill_nil S1 ?_; clear S1; intro a_ S1
                rw [show q_73 = false from hl2] at S1
                have S0 := S.defers; replace S := S1; clear S1
                refine wl_pure (l' := [(68, undef), (65, .bool false), (67, undef), (49, .bool (t_51.2 != 0)), (10, .int .i64 t_51.2), (9, .pointer (some (⟨b_58, 0, .none⟩ : Addr))), (1, v1)]) S tys tys_ok 1 (by kernel_rfl) ?_; clear S; intro a S
                refine wpList_nil ?_
                exact RPost.mk_ S rfl S0 ⟨fun k_ => absurd k_ hc2, fun _ => rfl⟩ (Below.refl _ _)
            refine RunAll.cons (cndF q_73 true (isI .i64 y_83)) [(cndF q_73 true (isI .u8 y_83), 68), (eqv (.bool q_73), 65)] rfl rfl ?_ ?_
            · intro W_ hW
              by_cases hc2 : q_73 = true
              · have hl2 : q_73 = true := hc2
                have S1 := S
                intro v_309 hF_310
                replace hF_310 := cndF.pos hF_310 hc2
                revert hF_310
                revert v_309
                rintro _ ⟨rfl, hF_311⟩
                replace S1 := S1.put (by decide : 68 < 152) (.int .u8 y_83)
                intro v_314 hF_313; obtain rfl : v_314 = .bool q_73 := hF_313
                replace S1 := S1.put (by decide : 65 < 152) (.bool q_73)
                refine fill_nil S1 ?_; clear S1; intro a_ S1
                replace W := W.step hW
                rw [show q_73 = true from hl2] at S1
                have S0 := S.defers; replace S := S1; clear S1
                obtain ⟨ey_83, ey_89, ex_95, ex_96, _⟩ := (HG_82).1 hc2
                refine w_go S rfl (op_conv S .i64 .bool .bool rfl ty5 ty3 rfl rfl rfl (widen hF_311 (by decide)).1 ?_)
                clear S; intro a S
                refine wpList_nil ?_
                exact RPost.mk_ S rfl S0 ⟨fun _ => ⟨rfl, (widen hF_311 (by decide)).2⟩, fun k_ => absurd hc2 k_⟩ (Below.refl _ _)
              · have hl2 : q_73 = false := Bool.eq_false_iff.2 hc2
                have S1 := S
                intro v_315 hF_316
                obtain rfl := cndF.neg hF_316 hc2
                replace S1 := S1.put (by decide : 68 < 152) (undef)
                intro v_318 hF_317; obtain rfl : v_318 = .bool q_73 := hF_317
                replace S1 := S1.put (by decide : 65 < 152) (.bool q_73)
                refine fill_nil S1 ?_; clear S1; intro a_ S1
                rw [show q_73 = false from hl2] at S1
                have S0 := S.defers; replace S := S1; clear S1
                refine wl_pure (l' := [(69, undef), (65, .bool false), (68, undef), (49, .bool (t_51.2 != 0)), (10, .int .i64 t_51.2), (9, .pointer (some (⟨b_58, 0, .none⟩ : Addr))), (1, v1)]) S tys tys_ok 1 (by kernel_rfl) ?_; clear S; intro a S
                refine wpList_nil ?_
                exact RPost.mk_ S rfl S0 ⟨fun k_ => absurd k_ hc2, fun _ => rfl⟩ (Below.refl _ _)
            refine RunAll.cons (cndF q_73 true (isRep (.sl (.int .u8)) (Kx K w.heap.size [some b_58, some b_39, some b_1]) x1)) [(eqv (.bool q_73), 65)] rfl rfl ?_ ?_
            · intro W_ hW
              by_cases hc2 : q_73 = true
              · have hl2 : q_73 = true := hc2
                have S1 := S
                intro v_320 hF_319; obtain rfl : v_320 = .bool q_73 := hF_319
                replace S1 := S1.put (by decide : 65 < 152) (.bool q_73)
                refine fill_nil S1 ?_; clear S1; intro a_ S1
                replace R1 := R1.step hW
                rw [show q_73 = true from hl2] at S1
                have S0 := S.defers; replace S := S1; clear S1
                refine wl_pure (l' := [(70, v1), (65, .bool true), (49, .bool (t_51.2 != 0)), (10, .int .i64 t_51.2), (9, .pointer (some (⟨b_58, 0, .none⟩ : Addr))), (1, v1)]) S tys tys_ok 1 (by kernel_rfl) ?_; clear S; intro a S
                refine wpList_nil ?_
                exact RPost.mk_ S rfl S0 ⟨fun _ => R1, fun k_ => absurd hc2 k_⟩ (Below.refl _ _)
              · have hl2 : q_73 = false := Bool.eq_false_iff.2 hc2
                have S1 := S
                intro v_322 hF_321; obtain rfl : v_322 = .bool q_73 := hF_321
                replace S1 := S1.put (by decide : 65 < 152) (.bool q_73)
                refine fill_nil S1 ?_; clear S1; intro a_ S1
                rw [show q_73 = false from hl2] at S1
                have S0 := S.defers; replace S := S1; clear S1
                refine wl_pure (l' := [(70, undef), (65, .bool false), (49, .bool (t_51.2 != 0)), (10, .int .i64 t_51.2), (9, .pointer (some (⟨b_58, 0, .none⟩ : Addr))), (1, v1)]) S tys tys_ok 1 (by kernel_rfl) ?_; clear S; intro a S
                refine wpList_nil ?_
                exact RPost.mk_ S rfl S0 ⟨fun k_ => absurd k_ hc2, fun _ => rfl⟩ (Below.refl _ _)
            refine RunAll.cons (cndF q_73 true (isEl (.int .u8) (Kx K w.heap.size [some b_58, some b_39, some b_1]) y_89)) [(cndF q_73 true (isRep (.sl (.int .u8)) (Kx K w.heap.size [some b_58, some b_39, some b_1]) x1), 70), (eqv (.bool q_73), 65)] rfl rfl ?_ ?_
            · intro W_ hW
              by_cases hc2 : q_73 = true
              · have hl2 : q_73 = true := hc2
                have S1 := S
                intro v_323 hF_324
                replace hF_324 := cndF.pos hF_324 hc2
                revert hF_324
                revert v_323
                intro v_326 hF_325; replace hF_325 : RepV _ _ _ _ _ := hF_325
                replace S1 := S1.put (by decide : 70 < 152) (v_326)
                intro v_328 hF_327; obtain rfl : v_328 = .bool q_73 := hF_327
                replace S1 := S1.put (by decide : 65 < 152) (.bool q_73)
                refine fill_nil S1 ?_; clear S1; intro a_ S1
                rw [show q_73 = true from hl2] at S1
                have S0 := S.defers; replace S := S1; clear S1
                obtain ⟨ey_83, ey_89, ex_95, ex_96, _⟩ := (HG_82).1 hc2
                refine w_go S rfl (op_indexAddr S rfl ty23 rfl rfl rfl hF_325 rfl ey_89 ?_)
                clear S; intro a p_329 R_330 H_331 S
                refine wpList_nil ?_
                exact RPost.mk_ S rfl S0 ⟨fun _ => ⟨_, rfl, R_330, H_331⟩, fun k_ => absurd hc2 k_⟩ (Below.refl _ _)
              · have hl2 : q_73 = false := Bool.eq_false_iff.2 hc2
                have S1 := S
                intro v_332 hF_333
                obtain rfl := cndF.neg hF_333 hc2
                replace S1 := S1.put (by decide : 70 < 152) (undef)
                intro v_335 hF_334; obtain rfl : v_335 = .bool q_73 := hF_334
                replace S1 := S1.put (by decide : 65 < 152) (.bool q_73)
                refine fill_nil S1 ?_; clear S1; intro a_ S1
                rw [show q_73 = false from hl2] at S1
                have S0 := S.defers; replace S := S1; clear S1
                refine wl_pure (l' := [(71, undef), (65, .bool false), (70, undef), (49, .bool (t_51.2 != 0)), (10, .int .i64 t_51.2), (9, .pointer (some (⟨b_58, 0, .none⟩ : Addr))), (1, v1)]) S tys tys_ok 1 (by kernel_rfl) ?_; clear S; intro a S
                refine wpList_nil ?_
                exact RPost.mk_ S rfl S0 ⟨fun k_ => absurd k_ hc2, fun _ => rfl⟩ (Below.refl _ _)
            refine RunAll.cons (cndF q_73 true (isI .u8 y_89)) [(cndF q_73 true (isEl (.int .u8) (Kx K w.heap.size [some b_58, some b_39, some b_1]) y_89), 71), (eqv (.bool q_73), 65)] rfl rfl ?_ ?_
            · intro W_ hW
              by_cases hc2 : q_73 = true
              · have hl2 : q_73 = true := hc2
                have S1 := S
                intro v_336 hF_337
                replace hF_337 := cndF.pos hF_337 hc2
                revert hF_337
                revert v_336
                rintro _ ⟨p_340, rfl, R_341, H_342⟩
                replace S1 := S1.put (by decide : 71 < 152) (.pointer (some p_340))
                intro v_344 hF_343; obtain rfl : v_344 = .bool q_73 := hF_343
                replace S1 := S1.put (by decide : 65 < 152) (.bool q_73)
                refine fill_nil S1 ?_; clear S1; intro a_ S1
                rw [show q_73 = true from hl2] at S1
                have S0 := S.defers; replace S := S1; clear S1
                obtain ⟨ey_83, ey_89, ex_95, ex_96, _⟩ := (HG_82).1 hc2
                refine w_go S rfl (op_load (t := (.int .u8)) (x := y_89) S rfl ty5 rfl rfl rfl R_341 ?_)
                clear S; intro a v_345 R_346 S
                obtain ⟨rfl, GR_346⟩ := RepV.int R_346
                refine wpList_nil ?_
                exact RPost.mk_ S rfl S0 ⟨fun _ => ⟨rfl, GR_346⟩, fun k_ => absurd hc2 k_⟩ (Below.refl _ _)
              · have hl2 : q_73 = false := Bool.eq_false_iff.2 hc2
                have S1 := S
                intro v_347 hF_348
                obtain rfl := cndF.neg hF_348 hc2
                replace S1 := S1.put (by decide : 71 < 152) (undef)
                intro v_350 hF_349; obtain rfl : v_350 = .bool q_73 := hF_349
                replace S1 := S1.put (by decide : 65 < 152) (.bool q_73)
                refine fill_nil S1 ?_; clear S1; intro a_ S1
                rw [show q_73 = false from hl2] at S1
                have S0 := S.defers; replace S := S1; clear S1
                refine wl_pure (l' := [(72, undef), (65, .bool false), (71, undef), (49, .bool (t_51.2 != 0)), (10, .int .i64 t_51.2), (9, .pointer (some (⟨b_58, 0, .none⟩ : Addr))), (1, v1)]) S tys tys_ok 1 (by kernel_rfl) ?_; clear S; intro a S
                refine wpList_nil ?_
                exact RPost.mk_ S rfl S0 ⟨fun k_ => absurd k_ hc2, fun _ => rfl⟩ (Below.refl _ _)
            refine RunAll.cons (cndF q_73 true (isI .i64 y_89)) [(cndF q_73 true (isI .u8 y_89), 72), (eqv (.bool q_73), 65)] rfl rfl ?_ ?_
            · intro W_ hW
              by_cases hc2 : q_73 = true
              · have hl2 : q_73 = true := hc2
                have S1 := S
                intro v_351 hF_352
                replace hF_352 := cndF.pos hF_352 hc2
                revert hF_352
                revert v_351
                rintro _ ⟨rfl, hF_353⟩
                replace S1 := S1.put (by decide : 72 < 152) (.int .u8 y_89)
                intro v_356 hF_355; obtain rfl : v_356 = .bool q_73 := hF_355
                replace S1 := S1.put (by decide : 65 < 152) (.bool q_73)
                refine fill_nil S1 ?_; clear S1; intro a_ S1
                replace W := W.step hW
                rw [show q_73 = true from hl2] at S1
                have S0 := S.defers; replace S := S1; clear S1
                obtain ⟨ey_83, ey_89, ex_95, ex_96, _⟩ := (HG_82).1 hc2
                refine w_go S rfl (op_conv S .i64 .bool .bool rfl ty5 ty3 rfl rfl rfl (widen hF_353 (by decide)).1 ?_)
                clear S; intro a S
                refine wpList_nil ?_
                exact RPost.mk_ S rfl S0 ⟨fun _ => ⟨rfl, (widen hF_353 (by decide)).2⟩, fun k_ => absurd hc2 k_⟩ (Below.refl _ _)
              · have hl2 : q_73 = false := Bool.eq_false_iff.2 hc2
                have S1 := S
                intro v_357 hF_358
                obtain rfl := cndF.neg hF_358 hc2
                replace S1 := S1.put (by decide : 72 < 152) (undef)
                intro v_360 hF_359; obtain rfl : v_360 = .bool q_73 := hF_359
                replace S1 := S1.put (by decide : 65 < 152) (.bool q_73)
                refine fill_nil S1 ?_; clear S1; intro a_ S1
                rw [show q_73 = false from hl2] at S1
                have S0 := S.defers; replace S := S1; clear S1
                refine wl_pure (l' := [(73, undef), (65, .bool false), (72, undef), (49, .bool (t_51.2 != 0)), (10, .int .i64 t_51.2), (9, .pointer (some (⟨b_58, 0, .none⟩ : Addr))), (1, v1)]) S tys tys_ok 1 (by kernel_rfl) ?_; clear S; intro a S
                refine wpList_nil ?_
                exact RPost.mk_ S rfl S0 ⟨fun k_ => absurd k_ hc2, fun _ => rfl⟩ (Below.refl _ _)
            refine RunAll.cons (cndF q_73 true (isI .i64 x_95)) [(cndF q_73 true (isI .i64 y_89), 73), (eqv (.bool q_73), 65)] rfl rfl ?_ ?_
            · intro W_ hW
              by_cases hc2 : q_73 = true
              · have hl2 : q_73 = true := hc2
                have S1 := S
                intro v_361 hF_362
                replace hF_362 := cndF.pos hF_362 hc2
                revert hF_362
                revert v_361
                rintro _ ⟨rfl, hF_363⟩
                replace S1 := S1.put (by decide : 73 < 152) (.int .i64 y_89)
                intro v_366 hF_365; obtain rfl : v_366 = .bool q_73 := hF_365
                replace S1 := S1.put (by decide : 65 < 152) (.bool q_73)
                refine fill_nil S1 ?_; clear S1; intro a_ S1
                rw [show q_73 = true from hl2] at S1
                have S0 := S.defers; replace S := S1; clear S1
                obtain ⟨ey_83, ey_89, ex_95, ex_96, _⟩ := (HG_82).1 hc2
                refine w_go S rfl (op_arith S .i64 (256 * y_89) rfl (.inr (.inr rfl)) rfl rfl rfl rfl ex_95 ?_)
                clear S; intro a S
                refine wpList_nil ?_
                exact RPost.mk_ S rfl S0 ⟨fun _ => ⟨rfl, (ckI_some ex_95).2.1⟩, fun k_ => absurd hc2 k_⟩ (Below.refl _ _)
              · have hl2 : q_73 = false := Bool.eq_false_iff.2 hc2
                have S1 := S
                intro v_367 hF_368
                obtain rfl := cndF.neg hF_368 hc2
                replace S1 := S1.put (by decide : 73 < 152) (undef)
                intro v_370 hF_369; obtain rfl : v_370 = .bool q_73 := hF_369
                replace S1 := S1.put (by decide : 65 < 152) (.bool q_73)
                refine fill_nil S1 ?_; clear S1; intro a_ S1
                rw [show q_73 = false from hl2] at S1
                have S0 := S.defers; replace S := S1; clear S1
                refine wl_pure (l' := [(74, undef), (65, .bool false), (73, undef), (49, .bool (t_51.2 != 0)), (10, .int .i64 t_51.2), (9, .pointer (some (⟨b_58, 0, .none⟩ : Addr))), (1, v1)]) S tys tys_ok 1 (by kernel_rfl) ?_; clear S; intro a S
                refine wpList_nil ?_
                exact RPost.mk_ S rfl S0 ⟨fun k_ => absurd k_ hc2, fun _ => rfl⟩ (Below.refl _ _)
            refine RunAll.cons (cndF q_73 true (isI .i64 x_96)) [(cndF q_73 true (isI .i64 y_83), 69), (cndF q_73 true (isI .i64 x_95), 74), (eqv (.bool q_73), 65)] rfl rfl ?_ ?_
            · intro W_ hW
              by_cases hc2 : q_73 = true
              · have hl2 : q_73 = true := hc2
                have S1 := S
                intro v_371 hF_372
                replace hF_372 := cndF.pos hF_372 hc2
                revert hF_372
                revert v_371
                rintro _ ⟨rfl, hF_373⟩
                replace S1 := S1.put (by decide : 69 < 152) (.int .i64 y_83)
                intro v_375 hF_376
                replace hF_376 := cndF.pos hF_376 hc2
                revert hF_376
                revert v_375
                rintro _ ⟨rfl, hF_377⟩
                replace S1 := S1.put (by decide : 74 < 152) (.int .i64 x_95)
                intro v_380 hF_379; obtain rfl : v_380 = .bool q_73 := hF_379
                replace S1 := S1.put (by decide : 65 < 152) (.bool q_73)
                refine fill_nil S1 ?_; clear S1; intro a_ S1
                rw [show q_73 = true from hl2] at S1
                have S0 := S.defers; replace S := S1; clear S1
                obtain ⟨ey_83, ey_89, ex_95, ex_96, _⟩ := (HG_82).1 hc2
                refine w_go S rfl (op_arith S .i64 (y_83 + x_95) rfl (.inl rfl) rfl rfl rfl rfl ex_96 ?_)
                clear S; intro a S
                refine wpList_nil ?_
                exact RPost.mk_ S rfl S0 ⟨fun _ => ⟨rfl, (ckI_some ex_96).2.1⟩, fun k_ => absurd hc2 k_⟩ (Below.refl _ _)
              · have hl2 : q_73 = false := Bool.eq_false_iff.2 hc2
                have S1 := S
                intro v_381 hF_382
                obtain rfl := cndF.neg hF_382 hc2
                replace S1 := S1.put (by decide : 69 < 152) (undef)
                intro v_383 hF_384
                obtain rfl := cndF.neg hF_384 hc2
                replace S1 := S1.put (by decide : 74 < 152) (undef)
                intro v_386 hF_385; obtain rfl : v_386 = .bool q_73 := hF_385
                replace S1 := S1.put (by decide : 65 < 152) (.bool q_73)
                refine fill_nil S1 ?_; clear S1; intro a_ S1
                rw [show q_73 = false from hl2] at S1
                have S0 := S.defers; replace S := S1; clear S1
                refine wl_pure (l' := [(75, undef), (65, .bool false), (74, undef), (69, undef), (49, .bool (t_51.2 != 0)), (10, .int .i64 t_51.2), (9, .pointer (some (⟨b_58, 0, .none⟩ : Addr))), (1, v1)]) S tys tys_ok 1 (by kernel_rfl) ?_; clear S; intro a S
                refine wpList_nil ?_
                exact RPost.mk_ S rfl S0 ⟨fun k_ => absurd k_ hc2, fun _ => rfl⟩ (Below.refl _ _)
            refine RunAll.cons (cndF q_73 true (eqv (.bool (decide (x_96 ≥ 9))))) [(cndF q_73 true (isI .i64 x_96), 75), (eqv (.bool q_73), 65)] rfl rfl ?_ ?_
            · intro W_ hW
              by_cases hc2 : q_73 = true
              · have hl2 : q_73 = true := hc2
                have S1 := S
                intro v_387 hF_388
                replace hF_388 := cndF.pos hF_388 hc2
                revert hF_388
                revert v_387
                rintro _ ⟨rfl, hF_389⟩
                replace S1 := S1.put (by decide : 75 < 152) (.int .i64 x_96)
                intro v_392 hF_391; obtain rfl : v_392 = .bool q_73 := hF_391
                replace S1 := S1.put (by decide : 65 < 152) (.bool q_73)
                refine fill_nil S1 ?_; clear S1; intro a_ S1
                rw [show q_73 = true from hl2] at S1
                have S0 := S.defers; replace S := S1; clear S1
                refine wl_pure (l' := [(76, .bool (decide (x_96 ≥ 9))), (65, .bool true), (75, .int .i64 x_96), (49, .bool (t_51.2 != 0)), (10, .int .i64 t_51.2), (9, .pointer (some (⟨b_58, 0, .none⟩ : Addr))), (1, v1)]) S tys tys_ok 1 (by kernel_rfl) ?_; clear S; intro a S
                refine wpList_nil ?_
                exact RPost.mk_ S rfl S0 ⟨fun _ => rfl, fun k_ => absurd hc2 k_⟩ (Below.refl _ _)
              · have hl2 : q_73 = false := Bool.eq_false_iff.2 hc2
                have S1 := S
                intro v_393 hF_394
                obtain rfl := cndF.neg hF_394 hc2
                replace S1 := S1.put (by decide : 75 < 152) (undef)
                intro v_396 hF_395; obtain rfl : v_396 = .bool q_73 := hF_395
                replace S1 := S1.put (by decide : 65 < 152) (.bool q_73)
                refine fill_nil S1 ?_; clear S1; intro a_ S1
                rw [show q_73 = false from hl2] at S1
                have S0 := S.defers; replace S := S1; clear S1
                refine wl_pure (l' := [(76, undef), (65, .bool false), (75, undef), (49, .bool (t_51.2 != 0)), (10, .int .i64 t_51.2), (9, .pointer (some (⟨b_58, 0, .none⟩ : Addr))), (1, v1)]) S tys tys_ok 1 (by kernel_rfl) ?_; clear S; intro a S
                refine wpList_nil ?_
                exact RPost.mk_ S rfl S0 ⟨fun k_ => absurd k_ hc2, fun _ => rfl⟩ (Below.refl _ _)
            refine RunAll.cons (eqv (.bool q_81)) [(eqv (.bool q_73), 65), (cndF q_73 true (eqv (.bool (decide (x_96 ≥ 9)))), 76)] rfl rfl ?_ ?_
            · intro W_ hW
              by_cases hc2 : q_73 = true
              · have hl2 : q_73 = true := hc2
                have S1 := S
                intro v_398 hF_397; obtain rfl : v_398 = .bool q_73 := hF_397
                replace S1 := S1.put (by decide : 65 < 152) (.bool q_73)
                intro v_399 hF_400
                replace hF_400 := cndF.pos hF_400 hc2
                revert hF_400
                revert v_399
                intro v_402 hF_401; obtain rfl : v_402 = .bool (decide (x_96 ≥ 9)) := hF_401
                replace S1 := S1.put (by decide : 76 < 152) (.bool (decide (x_96 ≥ 9)))
                refine fill_nil S1 ?_; clear S1; intro a_ S1
                rw [show q_73 = true from hl2] at S1
                have S0 := S.defers; replace S := S1; clear S1
                refine wl_pure (l' := [(77, .bool (decide (x_96 ≥ 9))), (76, .bool (decide (x_96 ≥ 9))), (65, .bool true), (49, .bool (t_51.2 != 0)), (10, .int .i64 t_51.2), (9, .pointer (some (⟨b_58, 0, .none⟩ : Addr))), (1, v1)]) S tys tys_ok 1 (by kernel_rfl) ?_; clear S; intro a S
                refine wpList_nil ?_
                exact RPost.mk_ S rfl S0 (congrArg Value.bool ((HG_82).1 hc2).2.2.2.2) (Below.refl _ _)
              · have hl2 : q_73 = false := Bool.eq_false_iff.2 hc2
                have S1 := S
                intro v_404 hF_403; obtain rfl : v_404 = .bool q_73 := hF_403
                replace S1 := S1.put (by decide : 65 < 152) (.bool q_73)
                intro v_405 hF_406
                obtain rfl := cndF.neg hF_406 hc2
                replace S1 := S1.put (by decide : 76 < 152) (undef)
                refine fill_nil S1 ?_; clear S1; intro a_ S1
                rw [show q_73 = false from hl2] at S1
                have S0 := S.defers; replace S := S1; clear S1
                refine wl_pure (l' := [(77, .bool false), (76, undef), (65, .bool false), (49, .bool (t_51.2 != 0)), (10, .int .i64 t_51.2), (9, .pointer (some (⟨b_58, 0, .none⟩ : Addr))), (1, v1)]) S tys tys_ok 1 (by kernel_rfl) ?_; clear S; intro a S
                refine wpList_nil ?_
                exact RPost.mk_ S rfl S0 (congrArg Value.bool ((HG_82).2 hc2)) (Below.refl _ _)
            refine RunAll.cons (eqv (.bool q_81)) [(eqv (.bool q_81), 77)] rfl rfl ?_ ?_
            · intro W_ hW
              have S1 := S
              intro v_408 hF_407; obtain rfl : v_408 = .bool q_81 := hF_407
              replace S1 := S1.put (by decide : 77 < 152) (.bool q_81)
              refine fill_nil S1 ?_; clear S1; intro a_ S1
              have S0 := S.defers; replace S := S1; clear S1
              refine wl_pure (l' := [(78, .bool q_81), (77, .bool q_81), (49, .bool (t_51.2 != 0)), (10, .int .i64 t_51.2), (9, .pointer (some (⟨b_58, 0, .none⟩ : Addr))), (1, v1)]) S tys tys_ok 1 (by kernel_rfl) ?_; clear S; intro a S
              refine wpList_nil ?_
              exact RPost.mk_ S rfl S0 rfl (Below.refl _ _)
            refine RunAll.cons (cndF q_81 true (isRep (.sl (.int .u8)) (Kx K w.heap.size [some b_58, some b_39, some b_1]) x1)) [(eqv (.bool q_81), 78)] rfl rfl ?_ ?_
            · intro W_ hW
              by_cases hc3 : q_81 = true
              · have hl3 : q_81 = true := hc3
                have S1 := S
                intro v_410 hF_409; obtain rfl : v_410 = .bool q_81 := hF_409
                replace S1 := S1.put (by decide : 78 < 152) (.bool q_81)
                refine fill_nil S1 ?_; clear S1; intro a_ S1
                replace R1 := R1.step hW
                rw [show q_81 = true from hl3] at S1
                have S0 := S.defers; replace S := S1; clear S1
                refine wl_pure (l' := [(79, v1), (78, .bool true), (49, .bool (t_51.2 != 0)), (10, .int .i64 t_51.2), (9, .pointer (some (⟨b_58, 0, .none⟩ : Addr))), (1, v1)]) S tys tys_ok 1 (by kernel_rfl) ?_; clear S; intro a S
                refine wpList_nil ?_
                exact RPost.mk_ S rfl S0 ⟨fun _ => R1, fun k_ => absurd hc3 k_⟩ (Below.refl _ _)
              · have hl3 : q_81 = false := Bool.eq_false_iff.2 hc3
                have S1 := S
                intro v_412 hF_411; obtain rfl : v_412 = .bool q_81 := hF_411
                replace S1 := S1.put (by decide : 78 < 152) (.bool q_81)
                refine fill_nil S1 ?_; clear S1; intro a_ S1
                rw [show q_81 = false from hl3] at S1
                have S0 := S.defers; replace S := S1; clear S1
                refine wl_pure (l' := [(79, undef), (78, .bool false), (49, .bool (t_51.2 != 0)), (10, .int .i64 t_51.2), (9, .pointer (some (⟨b_58, 0, .none⟩ : Addr))), (1, v1)]) S tys tys_ok 1 (by kernel_rfl) ?_; clear S; intro a S
                refine wpList_nil ?_
                exact RPost.mk_ S rfl S0 ⟨fun k_ => absurd k_ hc3, fun _ => rfl⟩ (Below.refl _ _)
            refine RunAll.cons (cndF q_81 true (isEl (.int .u8) (Kx K w.heap.size [some b_58, some b_39, some b_1]) y_99)) [(cndF q_81 true (isRep (.sl (.int .u8)) (Kx K w.heap.size [some b_58, some b_39, some b_1]) x1), 79), (eqv (.bool q_81), 78)] rfl rfl ?_ ?_
            · intro W_ hW
              by_cases hc3 : q_81 = true
              · have hl3 : q_81 = true := hc3
                have S1 := S
                intro v_413 hF_414
                replace hF_414 := cndF.pos hF_414 hc3
                revert hF_414
                revert v_413
                intro v_416 hF_415; replace hF_415 : RepV _ _ _ _ _ := hF_415
                replace S1 := S1.put (by decide : 79 < 152) (v_416)
                intro v_418 hF_417; obtain rfl : v_418 = .bool q_81 := hF_417
                replace S1 := S1.put (by decide : 78 < 152) (.bool q_81)
                refine fill_nil S1 ?_; clear S1; intro a_ S1
                rw [show q_81 = true from hl3] at S1
                have S0 := S.defers; replace S := S1; clear S1
                obtain ⟨ey_99, ey_105, ex_111, ex_112, _⟩ := (HG_98).1 hc3
                refine w_go S rfl (op_indexAddr S rfl ty23 rfl rfl rfl hF_415 rfl ey_99 ?_)
                clear S; intro a p_419 R_420 H_421 S
                refine wpList_nil ?_
                exact RPost.mk_ S rfl S0 ⟨fun _ => ⟨_, rfl, R_420, H_421⟩, fun k_ => absurd hc3 k_⟩ (Below.refl _ _)
              · have hl3 : q_81 = false := Bool.eq_false_iff.2 hc3
                have S1 := S
                intro v_422 hF_423
                obtain rfl := cndF.neg hF_423 hc3
                replace S1 := S1.put (by decide : 79 < 152) (undef)
                intro v_425 hF_424; obtain rfl : v_425 = .bool q_81 := hF_424
                replace S1 := S1.put (by decide : 78 < 152) (.bool q_81)
                refine fill_nil S1 ?_; clear S1; intro a_ S1
                rw [show q_81 = false from hl3] at S1
                have S0 := S.defers; replace S := S1; clear S1
                refine wl_pure (l' := [(80, undef), (78, .bool false), (79, undef), (49, .bool (t_51.2 != 0)), (10, .int .i64 t_51.2), (9, .pointer (some (⟨b_58, 0, .none⟩ : Addr))), (1, v1)]) S tys tys_ok 1 (by kernel_rfl) ?_; clear S; intro a S
                refine wpList_nil ?_
                exact RPost.mk_ S rfl S0 ⟨fun k_ => absurd k_ hc3, fun _ => rfl⟩ (Below.refl _ _)
            refine RunAll.cons (cndF q_81 true (isI .u8 y_99)) [(cndF q_81 true (isEl (.int .u8) (Kx K w.heap.size [some b_58, some b_39, some b_1]) y_99), 80), (eqv (.bool q_81), 78)] rfl rfl ?_ ?_
            · intro W_ hW
              by_cases hc3 : q_81 = true
              · have hl3 : q_81 = true := hc3
                have S1 := S
                intro v_426 hF_427
                replace hF_427 := cndF.pos hF_427 hc3
                revert hF_427
                revert v_426
                rintro _ ⟨p_430, rfl, R_431, H_432⟩
                replace S1 := S1.put (by decide : 80 < 152) (.pointer (some p_430))
                intro v_434 hF_433; obtain rfl : v_434 = .bool q_81 := hF_433
                replace S1 := S1.put (by decide : 78 < 152) (.bool q_81)
                refine fill_nil S1 ?_; clear S1; intro a_ S1
                rw [show q_81 = true from hl3] at S1
                have S0 := S.defers; replace S := S1; clear S1
                obtain ⟨ey_99, ey_105, ex_111, ex_112, _⟩ := (HG_98).1 hc3
                refine w_go S rfl (op_load (t := (.int .u8)) (x := y_99) S rfl ty5 rfl rfl rfl R_431 ?_)
                clear S; intro a v_435 R_436 S
                obtain ⟨rfl, GR_436⟩ := RepV.int R_436
                refine wpList_nil ?_
                exact RPost.mk_ S rfl S0 ⟨fun _ => ⟨rfl, GR_436⟩, fun k_ => absurd hc3 k_⟩ (Below.refl _ _)
              · have hl3 : q_81 = false := Bool.eq_false_iff.2 hc3
                have S1 := S
                intro v_437 hF_438
                obtain rfl := cndF.neg hF_438 hc3
                replace S1 := S1.put (by decide : 80 < 152) (undef)
                intro v_440 hF_439; obtain rfl : v_440 = .bool q_81 := hF_439
                replace S1 := S1.put (by decide : 78 < 152) (.bool q_81)
                refine fill_nil S1 ?_; clear S1; intro a_ S1
                rw [show q_81 = false from hl3] at S1
                have S0 := S.defers; replace S := S1; clear S1
                refine wl_pure (l' := [(81, undef), (78, .bool false), (80, undef), (49, .bool (t_51.2 != 0)), (10, .int .i64 t_51.2), (9, .pointer (some (⟨b_58, 0, .none⟩ : Addr))), (1, v1)]) S tys tys_ok 1 (by kernel_rfl) ?_; clear S; intro a S
                refine wpList_nil ?_
                exact RPost.mk_ S rfl S0 ⟨fun k_ => absurd k_ hc3, fun _ => rfl⟩ (Below.refl _ _)
            refine RunAll.cons (cndF q_81 true (isI .i64 y_99)) [(cndF q_81 true (isI .u8 y_99), 81), (eqv (.bool q_81), 78)] rfl rfl ?_ ?_
            · intro W_ hW
              by_cases hc3 : q_81 = true
              · have hl3 : q_81 = true := hc3
                have S1 := S
                intro v_441 hF_442
                replace hF_442 := cndF.pos hF_442 hc3
                revert hF_442
                revert v_441
                rintro _ ⟨rfl, hF_443⟩
                replace S1 := S1.put (by decide : 81 < 152) (.int .u8 y_99)
                intro v_446 hF_445; obtain rfl : v_446 = .bool q_81 := hF_445
                replace S1 := S1.put (by decide : 78 < 152) (.bool q_81)
                refine fill_nil S1 ?_; clear S1; intro a_ S1
                replace W := W.step hW
                rw [show q_81 = true from hl3] at S1
                have S0 := S.defers; replace S := S1; clear S1
                obtain ⟨ey_99, ey_105, ex_111, ex_112, _⟩ := (HG_98).1 hc3
                refine w_go S rfl (op_conv S .i64 .bool .bool rfl ty5 ty3 rfl rfl rfl (widen hF_443 (by decide)).1 ?_)
                clear S; intro a S
                refine wpList_nil ?_
                exact RPost.mk_ S rfl S0 ⟨fun _ => ⟨rfl, (widen hF_443 (by decide)).2⟩, fun k_ => absurd hc3 k_⟩ (Below.refl _ _)
              · have hl3 : q_81 = false := Bool.eq_false_iff.2 hc3
                have S1 := S
                intro v_447 hF_448
                obtain rfl := cndF.neg hF_448 hc3
                replace S1 := S1.put (by decide : 81 < 152) (undef)
                intro v_450 hF_449; obtain rfl : v_450 = .bool q_81 := hF_449
                replace S1 := S1.put (by decide : 78 < 152) (.bool q_81)
                refine fill_nil S1 ?_; clear S1; intro a_ S1
                rw [show q_81 = false from hl3] at S1
                have S0 := S.defers; replace S := S1; clear S1
                refine wl_pure (l' := [(82, undef), (78, .bool false), (81, undef), (49, .bool (t_51.2 != 0)), (10, .int .i64 t_51.2), (9, .pointer (some (⟨b_58, 0, .none⟩ : Addr))), (1, v1)]) S tys tys_ok 1 (by kernel_rfl) ?_; clear S; intro a S
                refine wpList_nil ?_
                exact RPost.mk_ S rfl S0 ⟨fun k_ => absurd k_ hc3, fun _ => rfl⟩ (Below.refl _ _)
            refine RunAll.cons (cndF q_81 true (isRep (.sl (.int .u8)) (Kx K w.heap.size [some b_58, some b_39, some b_1]) x1)) [(eqv (.bool q_81), 78)] rfl rfl ?_ ?_
            · intro W_ hW
              by_cases hc3 : q_81 = true
              · have hl3 : q_81 = true := hc3
                have S1 := S
                intro v_452 hF_451; obtain rfl : v_452 = .bool q_81 := hF_451
                replace S1 := S1.put (by decide : 78 < 152) (.bool q_81)
                refine fill_nil S1 ?_; clear S1; intro a_ S1
                replace R1 := R1.step hW
                rw [show q_81 = true from hl3] at S1
                have S0 := S.defers; replace S := S1; clear S1
                refine wl_pure (l' := [(83, v1), (78, .bool true), (49, .bool (t_51.2 != 0)), (10, .int .i64 t_51.2), (9, .pointer (some (⟨b_58, 0, .none⟩ : Addr))), (1, v1)]) S tys tys_ok 1 (by kernel_rfl) ?_; clear S; intro a S
                refine wpList_nil ?_
                exact RPost.mk_ S rfl S0 ⟨fun _ => R1, fun k_ => absurd hc3 k_⟩ (Below.refl _ _)
              · have hl3 : q_81 = false := Bool.eq_false_iff.2 hc3
                have S1 := S
                intro v_454 hF_453; obtain rfl : v_454 = .bool q_81 := hF_453
                replace S1 := S1.put (by decide : 78 < 152) (.bool q_81)
                refine fill_nil S1 ?_; clear S1; intro a_ S1
                rw [show q_81 = false from hl3] at S1
                have S0 := S.defers; replace S := S1; clear S1
                refine wl_pure (l' := [(83, undef), (78, .bool false), (49, .bool (t_51.2 != 0)), (10, .int .i64 t_51.2), (9, .pointer (some (⟨b_58, 0, .none⟩ : Addr))), (1, v1)]) S tys tys_ok 1 (by kernel_rfl) ?_; clear S; intro a S
                refine wpList_nil ?_
                exact RPost.mk_ S rfl S0 ⟨fun k_ => absurd k_ hc3, fun _ => rfl⟩ (Below.refl _ _)
            refine RunAll.cons (cndF q_81 true (isEl (.int .u8) (Kx K w.heap.size [some b_58, some b_39, some b_1]) y_105)) [(cndF q_81 true (isRep (.sl (.int .u8)) (Kx K w.heap.size [some b_58, some b_39, some b_1]) x1), 83), (eqv (.bool q_81), 78)] rfl rfl ?_ ?_
            · intro W_ hW
              by_cases hc3 : q_81 = true
              · have hl3 : q_81 = true := hc3
                have S1 := S
                intro v_455 hF_456
                replace hF_456 := cndF.pos hF_456 hc3
                revert hF_456
                revert v_455
                intro v_458 hF_457; replace hF_457 : RepV _ _ _ _ _ := hF_457
                replace S1 := S1.put (by decide : 83 < 152) (v_458)
                intro v_460 hF_459; obtain rfl : v_460 = .bool q_81 := hF_459
                replace S1 := S1.put (by decide : 78 < 152) (.bool q_81)
                refine fill_nil S1 ?_; clear S1; intro a_ S1
                rw [show q_81 = true from hl3] at S1
                have S0 := S.defers; replace S := S1; clear S1
                obtain ⟨ey_99, ey_105, ex_111, ex_112, _⟩ := (HG_98).1 hc3
                refine w_go S rfl (op_indexAddr S rfl ty23 rfl rfl rfl hF_457 rfl ey_105 ?_)
                clear S; intro a p_461 R_462 H_463 S
                refine wpList_nil ?_
                exact RPost.mk_ S rfl S0 ⟨fun _ => ⟨_, rfl, R_462, H_463⟩, fun k_ => absurd hc3 k_⟩ (Below.refl _ _)
              · have hl3 : q_81 = false := Bool.eq_false_iff.2 hc3
                have S1 := S
                intro v_464 hF_465
                obtain rfl := cndF.neg hF_465 hc3
                replace S1 := S1.put (by decide : 83 < 152) (undef)
                intro v_467 hF_466; obtain rfl : v_467 = .bool q_81 := hF_466
                replace S1 := S1.put (by decide : 78 < 152) (.bool q_81)
                refine fill_nil S1 ?_; clear S1; intro a_ S1
                rw [show q_81 = false from hl3] at S1
                have S0 := S.defers; replace S := S1; clear S1
                refine wl_pure (l' := [(84, undef), (78, .bool false), (83, undef), (49, .bool (t_51.2 != 0)), (10, .int .i64 t_51.2), (9, .pointer (some (⟨b_58, 0, .none⟩ : Addr))), (1, v1)]) S tys tys_ok 1 (by kernel_rfl) ?_; clear S; intro a S
                refine wpList_nil ?_
                exact RPost.mk_ S rfl S0 ⟨fun k_ => absurd k_ hc3, fun _ => rfl⟩ (Below.refl _ _)
            refine RunAll.cons (cndF q_81 true (isI .u8 y_105)) [(cndF q_81 true (isEl (.int .u8) (Kx K w.heap.size [some b_58, some b_39, some b_1]) y_105), 84), (eqv (.bool q_81), 78)] rfl rfl ?_ ?_
            · intro W_ hW
              by_cases hc3 : q_81 = true
              · have hl3 : q_81 = true := hc3
                have S1 := S
                intro v_468 hF_469
                replace hF_469 := cndF.pos hF_469 hc3
                revert hF_469
                revert v_468
                rintro _ ⟨p_472, rfl, R_473, H_474⟩
                replace S1 := S1.put (by decide : 84 < 152) (.pointer (some p_472))
                intro v_476 hF_475; obtain rfl : v_476 = .bool q_81 := hF_475
                replace S1 := S1.put (by decide : 78 < 152) (.bool q_81)
                refine fill_nil S1 ?_; clear S1; intro a_ S1
                rw [show q_81 = true from hl3] at S1
                have S0 := S.defers; replace S := S1; clear S1
                obtain ⟨ey_99, ey_105, ex_111, ex_112, _⟩ := (HG_98).1 hc3
                refine w_go S rfl (op_load (t := (.int .u8)) (x := y_105) S rfl ty5 rfl rfl rfl R_473 ?_)
                clear S; intro a v_477 R_478 S
                obtain ⟨rfl, GR_478⟩ := RepV.int R_478
                refine wpList_nil ?_
                exact RPost.mk_ S rfl S0 ⟨fun _ => ⟨rfl, GR_478⟩, fun k_ => absurd hc3 k_⟩ (Below.refl _ _)
              · have hl3 : q_81 = false := Bool.eq_false_iff.2 hc3
                have S1 := S
                intro v_479 hF_480
                obtain rfl := cndF.neg hF_480 hc3
                replace S1 := S1.put (by decide : 84 < 152) (undef)
                intro v_482 hF_481; obtain rfl : v_482 = .bool q_81 := hF_481
                replace S1 := S1.put (by decide : 78 < 152) (.bool q_81)
                refine fill_nil S1 ?_; clear S1; intro a_ S1
                rw [show q_81 = false from hl3] at S1
                have S0 := S.defers; replace S := S1; clear S1
                refine wl_pure (l' := [(85, undef), (78, .bool false), (84, undef), (49, .bool (t_51.2 != 0)), (10, .int .i64 t_51.2), (9, .pointer (some (⟨b_58, 0, .none⟩ : Addr))), (1, v1)]) S tys tys_ok 1 (by kernel_rfl) ?_; clear S; intro a S
                refine wpList_nil ?_
                exact RPost.mk_ S rfl S0 ⟨fun k_ => absurd k_ hc3, fun _ => rfl⟩ (Below.refl _ _)
            refine RunAll.cons (cndF q_81 true (isI .i64 y_105)) [(cndF q_81 true (isI .u8 y_105), 85), (eqv (.bool q_81), 78)] rfl rfl ?_ ?_
            · intro W_ hW
              by_cases hc3 : q_81 = true
              · have hl3 : q_81 = true := hc3
                have S1 := S
                intro v_483 hF_484
                replace hF_484 := cndF.pos hF_484 hc3
                revert hF_484
                revert v_483
                rintro _ ⟨rfl, hF_485⟩
                replace S1 := S1.put (by decide : 85 < 152) (.int .u8 y_105)
                intro v_488 hF_487; obtain rfl : v_488 = .bool q_81 := hF_487
                replace S1 := S1.put (by decide : 78 < 152) (.bool q_81)
                refine fill_nil S1 ?_; clear S1; intro a_ S1
                replace W := W.step hW
                rw [show q_81 = true from hl3] at S1
                have S0 := S.defers; replace S := S1; clear S1
                obtain ⟨ey_99, ey_105, ex_111, ex_112, _⟩ := (HG_98).1 hc3
                refine w_go S rfl (op_conv S .i64 .bool .bool rfl ty5 ty3 rfl rfl rfl (widen hF_485 (by decide)).1 ?_)
                clear S; intro a S
                refine wpList_nil ?_
                exact RPost.mk_ S rfl S0 ⟨fun _ => ⟨rfl, (widen hF_485 (by decide)).2⟩, fun k_ => absurd hc3 k_⟩ (Below.refl _ _)
              · have hl3 : q_81 = false := Bool.eq_false_iff.2 hc3
                have S1 := S
                intro v_489 hF_490
                obtain rfl := cndF.neg hF_490 hc3
                replace S1 := S1.put (by decide : 85 < 152) (undef)
                intro v_492 hF_491; obtain rfl : v_492 = .bool q_81 := hF_491
                replace S1 := S1.put (by decide : 78 < 152) (.bool q_81)
                refine fill_nil S1 ?_; clear S1; intro a_ S1
                rw [show q_81 = false from hl3] at S1
                have S0 := S.defers; replace S := S1; clear S1
                refine wl_pure (l' := [(86, undef), (78, .bool false), (85, undef), (49, .bool (t_51.2 != 0)), (10, .int .i64 t_51.2), (9, .pointer (some (⟨b_58, 0, .none⟩ : Addr))), (1, v1)]) S tys tys_ok 1 (by kernel_rfl) ?_; clear S; intro a S
                refine wpList_nil ?_
                exact RPost.mk_ S rfl S0 ⟨fun k_ => absurd k_ hc3, fun _ => rfl⟩ (Below.refl _ _)
            refine RunAll.cons (cndF q_81 true (isI .i64 x_111)) [(cndF q_81 true (isI .i64 y_105), 86), (eqv (.bool q_81), 78)] rfl rfl ?_ ?_
            · intro W_ hW
              by_cases hc3 : q_81 = true
              · have hl3 : q_81 = true := hc3
                have S1 := S
                intro v_493 hF_494
                replace hF_494 := cndF.pos hF_494 hc3
                revert hF_494
                revert v_493
                rintro _ ⟨rfl, hF_495⟩
                replace S1 := S1.put (by decide : 86 < 152) (.int .i64 y_105)
                intro v_498 hF_497; obtain rfl : v_498 = .bool q_81 := hF_497
                replace S1 := S1.put (by decide : 78 < 152) (.bool q_81)
                refine fill_nil S1 ?_; clear S1; intro a_ S1
                rw [show q_81 = true from hl3] at S1
                have S0 := S.defers; replace S := S1; clear S1
                obtain ⟨ey_99, ey_105, ex_111, ex_112, _⟩ := (HG_98).1 hc3
                refine w_go S rfl (op_arith S .i64 (256 * y_105) rfl (.inr (.inr rfl)) rfl rfl rfl rfl ex_111 ?_)
                clear S; intro a S
                refine wpList_nil ?_
                exact RPost.mk_ S rfl S0 ⟨fun _ => ⟨rfl, (ckI_some ex_111).2.1⟩, fun k_ => absurd hc3 k_⟩ (Below.refl _ _)
              · have hl3 : q_81 = false := Bool.eq_false_iff.2 hc3
                have S1 := S
                intro v_499 hF_500
                obtain rfl := cndF.neg hF_500 hc3
                replace S1 := S1.put (by decide : 86 < 152) (undef)
                intro v_502 hF_501; obtain rfl : v_502 = .bool q_81 := hF_501
                replace S1 := S1.put (by decide : 78 < 152) (.bool q_81)
                refine fill_nil S1 ?_; clear S1; intro a_ S1
                rw [show q_81 = false from hl3] at S1
                have S0 := S.defers; replace S := S1; clear S1
                refine wl_pure (l' := [(87, undef), (78, .bool false), (86, undef), (49, .bool (t_51.2 != 0)), (10, .int .i64 t_51.2), (9, .pointer (some (⟨b_58, 0, .none⟩ : Addr))), (1, v1)]) S tys tys_ok 1 (by kernel_rfl) ?_; clear S; intro a S
                refine wpList_nil ?_
                exact RPost.mk_ S rfl S0 ⟨fun k_ => absurd k_ hc3, fun _ => rfl⟩ (Below.refl _ _)
            refine RunAll.cons (cndF q_81 true (isI .i64 x_112)) [(cndF q_81 true (isI .i64 y_99), 82), (cndF q_81 true (isI .i64 x_111), 87), (eqv (.bool q_81), 78)] rfl rfl ?_ ?_
            · intro W_ hW
              by_cases hc3 : q_81 = true
              · have hl3 : q_81 = true := hc3
                have S1 := S
                intro v_503 hF_504
                replace hF_504 := cndF.pos hF_504 hc3
                revert hF_504
                revert v_503
                rintro _ ⟨rfl, hF_505⟩
                replace S1 := S1.put (by decide : 82 < 152) (.int .i64 y_99)
                intro v_507 hF_508
                replace hF_508 := cndF.pos hF_508 hc3
                revert hF_508
                revert v_507
                rintro _ ⟨rfl, hF_509⟩
                replace S1 := S1.put (by decide : 87 < 152) (.int .i64 x_111)
                intro v_512 hF_511; obtain rfl : v_512 = .bool q_81 := hF_511
                replace S1 := S1.put (by decide : 78 < 152) (.bool q_81)
                refine fill_nil S1 ?_; clear S1; intro a_ S1
                rw [show q_81 = true from hl3] at S1
                have S0 := S.defers; replace S := S1; clear S1
                obtain ⟨ey_99, ey_105, ex_111, ex_112, _⟩ := (HG_98).1 hc3
                refine w_go S rfl (op_arith S .i64 (y_99 + x_111) rfl (.inl rfl) rfl rfl rfl rfl ex_112 ?_)
                clear S; intro a S
                refine wpList_nil ?_
                exact RPost.mk_ S rfl S0 ⟨fun _ => ⟨rfl, (ckI_some ex_112).2.1⟩, fun k_ => absurd hc3 k_⟩ (Below.refl _ _)
              · have hl3 : q_81 = false := Bool.eq_false_iff.2 hc3
                have S1 := S
                intro v_513 hF_514
                obtain rfl := cndF.neg hF_514 hc3
                replace S1 := S1.put (by decide : 82 < 152) (undef)
                intro v_515 hF_516
                obtain rfl := cndF.neg hF_516 hc3
                replace S1 := S1.put (by decide : 87 < 152) (undef)
                intro v_518 hF_517; obtain rfl : v_518 = .bool q_81 := hF_517
                replace S1 := S1.put (by decide : 78 < 152) (.bool q_81)
                refine fill_nil S1 ?_; clear S1; intro a_ S1
                rw [show q_81 = false from hl3] at S1
                have S0 := S.defers; replace S := S1; clear S1
                refine wl_pure (l' := [(88, undef), (78, .bool false), (87, undef), (82, undef), (49, .bool (t_51.2 != 0)), (10, .int .i64 t_51.2), (9, .pointer (some (⟨b_58, 0, .none⟩ : Addr))), (1, v1)]) S tys tys_ok 1 (by kernel_rfl) ?_; clear S; intro a S
                refine wpList_nil ?_
                exact RPost.mk_ S rfl S0 ⟨fun k_ => absurd k_ hc3, fun _ => rfl⟩ (Below.refl _ _)
            refine RunAll.cons (cndF q_81 true (eqv (.bool (decide (x_112 ≤ 4096))))) [(cndF q_81 true (isI .i64 x_112), 88), (eqv (.bool q_81), 78)] rfl rfl ?_ ?_
            · intro W_ hW
              by_cases hc3 : q_81 = true
              · have hl3 : q_81 = true := hc3
                have S1 := S
                intro v_519 hF_520
                replace hF_520 := cndF.pos hF_520 hc3
                revert hF_520
                revert v_519
                rintro _ ⟨rfl, hF_521⟩
                replace S1 := S1.put (by decide : 88 < 152) (.int .i64 x_112)
                intro v_524 hF_523; obtain rfl : v_524 = .bool q_81 := hF_523
                replace S1 := S1.put (by decide : 78 < 152) (.bool q_81)
                refine fill_nil S1 ?_; clear S1; intro a_ S1
                rw [show q_81 = true from hl3] at S1
                have S0 := S.defers; replace S := S1; clear S1
                refine wl_pure (l' := [(89, .bool (decide (x_112 ≤ 4096))), (78, .bool true), (88, .int .i64 x_112), (49, .bool (t_51.2 != 0)), (10, .int .i64 t_51.2), (9, .pointer (some (⟨b_58, 0, .none⟩ : Addr))), (1, v1)]) S tys tys_ok 1 (by kernel_rfl) ?_; clear S; intro a S
                refine wpList_nil ?_
                exact RPost.mk_ S rfl S0 ⟨fun _ => rfl, fun k_ => absurd hc3 k_⟩ (Below.refl _ _)
              · have hl3 : q_81 = false := Bool.eq_false_iff.2 hc3
                have S1 := S
                intro v_525 hF_526
                obtain rfl := cndF.neg hF_526 hc3
                replace S1 := S1.put (by decide : 88 < 152) (undef)
                intro v_528 hF_527; obtain rfl : v_528 = .bool q_81 := hF_527
                replace S1 := S1.put (by decide : 78 < 152) (.bool q_81)
                refine fill_nil S1 ?_; clear S1; intro a_ S1
                rw [show q_81 = false from hl3] at S1
                have S0 := S.defers; replace S := S1; clear S1
                refine wl_pure (l' := [(89, undef), (78, .bool false), (88, undef), (49, .bool (t_51.2 != 0)), (10, .int .i64 t_51.2), (9, .pointer (some (⟨b_58, 0, .none⟩ : Addr))), (1, v1)]) S tys tys_ok 1 (by kernel_rfl) ?_; clear S; intro a S
                refine wpList_nil ?_
                exact RPost.mk_ S rfl S0 ⟨fun k_ => absurd k_ hc3, fun _ => rfl⟩ (Below.refl _ _)
            refine RunAll.cons (eqv (.bool q_97)) [(eqv (.bool q_81), 78), (cndF q_81 true (eqv (.bool (decide (x_112 ≤ 4096)))), 89)] rfl rfl ?_ ?_
            · intro W_ hW
              by_cases hc3 : q_81 = true
              · have hl3 : q_81 = true := hc3
                have S1 := S
                intro v_530 hF_529; obtain rfl : v_530 = .bool q_81 := hF_529
                replace S1 := S1.put (by decide : 78 < 152) (.bool q_81)
                intro v_531 hF_532
                replace hF_532 := cndF.pos hF_532 hc3
                revert hF_532
                revert v_531
                intro v_534 hF_533; obtain rfl : v_534 = .bool (decide (x_112 ≤ 4096)) := hF_533
                replace S1 := S1.put (by decide : 89 < 152) (.bool (decide (x_112 ≤ 4096)))
                refine fill_nil S1 ?_; clear S1; intro a_ S1
                rw [show q_81 = true from hl3] at S1
                have S0 := S.defers; replace S := S1; clear S1
                refine wl_pure (l' := [(90, .bool (decide (x_112 ≤ 4096))), (89, .bool (decide (x_112 ≤ 4096))), (78, .bool true), (49, .bool (t_51.2 != 0)), (10, .int .i64 t_51.2), (9, .pointer (some (⟨b_58, 0, .none⟩ : Addr))), (1, v1)]) S tys tys_ok 1 (by kernel_rfl) ?_; clear S; intro a S
                refine wpList_nil ?_
                exact RPost.mk_ S rfl S0 (congrArg Value.bool ((HG_98).1 hc3).2.2.2.2) (Below.refl _ _)
              · have hl3 : q_81 = false := Bool.eq_false_iff.2 hc3
                have S1 := S
                intro v_536 hF_535; obtain rfl : v_536 = .bool q_81 := hF_535
                replace S1 := S1.put (by decide : 78 < 152) (.bool q_81)
                intro v_537 hF_538
                obtain rfl := cndF.neg hF_538 hc3
                replace S1 := S1.put (by decide : 89 < 152) (undef)
                refine fill_nil S1 ?_; clear S1; intro a_ S1
                rw [show q_81 = false from hl3] at S1
                have S0 := S.defers; replace S := S1; clear S1
                refine wl_pure (l' := [(90, .bool false), (89, undef), (78, .bool false), (49, .bool (t_51.2 != 0)), (10, .int .i64 t_51.2), (9, .pointer (some (⟨b_58, 0, .none⟩ : Addr))), (1, v1)]) S tys tys_ok 1 (by kernel_rfl) ?_; clear S; intro a S
                refine wpList_nil ?_
                exact RPost.mk_ S rfl S0 (congrArg Value.bool ((HG_98).2 hc3)) (Below.refl _ _)
            refine RunAll.cons (eqv (.bool q_97)) [(eqv (.bool q_97), 90)] rfl rfl ?_ ?_
            · intro W_ hW
              have S1 := S
              intro v_540 hF_539; obtain rfl : v_540 = .bool q_97 := hF_539
              replace S1 := S1.put (by decide : 90 < 152) (.bool q_97)
              refine fill_nil S1 ?_; clear S1; intro a_ S1
              have S0 := S.defers; replace S := S1; clear S1
              refine wl_pure (l' := [(91, .bool q_97), (90, .bool q_97), (49, .bool (t_51.2 != 0)), (10, .int .i64 t_51.2), (9, .pointer (some (⟨b_58, 0, .none⟩ : Addr))), (1, v1)]) S tys tys_ok 1 (by kernel_rfl) ?_; clear S; intro a S
              refine wpList_nil ?_
              exact RPost.mk_ S rfl S0 rfl (Below.refl _ _)
            refine RunAll.cons (cndF q_97 true (isRep (.sl (.int .u8)) (Kx K w.heap.size [some b_58, some b_39, some b_1]) x1)) [(eqv (.bool q_97), 91)] rfl rfl ?_ ?_
            · intro W_ hW
              by_cases hc4 : q_97 = true
              · have hl4 : q_97 = true := hc4
                have S1 := S
                intro v_542 hF_541; obtain rfl : v_542 = .bool q_97 := hF_541
                replace S1 := S1.put (by decide : 91 < 152) (.bool q_97)
                refine fill_nil S1 ?_; clear S1; intro a_ S1
                replace R1 := R1.step hW
                rw [show q_97 = true from hl4] at S1
                have S0 := S.defers; replace S := S1; clear S1
                refine wl_pure (l' := [(92, v1), (91, .bool true), (49, .bool (t_51.2 != 0)), (10, .int .i64 t_51.2), (9, .pointer (some (⟨b_58, 0, .none⟩ : Addr))), (1, v1)]) S tys tys_ok 1 (by kernel_rfl) ?_; clear S; intro a S
                refine wpList_nil ?_
                exact RPost.mk_ S rfl S0 ⟨fun _ => R1, fun k_ => absurd hc4 k_⟩ (Below.refl _ _)
              · have hl4 : q_97 = false := Bool.eq_false_iff.2 hc4
                have S1 := S
                intro v_544 hF_543; obtain rfl : v_544 = .bool q_97 := hF_543
                replace S1 := S1.put (by decide : 91 < 152) (.bool q_97)
                refine fill_nil S1 ?_; clear S1; intro a_ S1
                rw [show q_97 = false from hl4] at S1
                have S0 := S.defers; replace S := S1; clear S1
                refine wl_pure (l' := [(92, undef), (91, .bool false), (49, .bool (t_51.2 != 0)), (10, .int .i64 t_51.2), (9, .pointer (some (⟨b_58, 0, .none⟩ : Addr))), (1, v1)]) S tys tys_ok 1 (by kernel_rfl) ?_; clear S; intro a S
                refine wpList_nil ?_
                exact RPost.mk_ S rfl S0 ⟨fun k_ => absurd k_ hc4, fun _ => rfl⟩ (Below.refl _ _)
            refine RunAll.cons (cndF q_97 true (isEl (.int .u8) (Kx K w.heap.size [some b_58, some b_39, some b_1]) y_115)) [(cndF q_97 true (isRep (.sl (.int .u8)) (Kx K w.heap.size [some b_58, some b_39, some b_1]) x1), 92), (eqv (.bool q_97), 91)] rfl rfl ?_ ?_
            · intro W_ hW
              by_cases hc4 : q_97 = true
              · have hl4 : q_97 = true := hc4
                have S1 := S
                intro v_545 hF_546
                replace hF_546 := cndF.pos hF_546 hc4
                revert hF_546
                revert v_545
                intro v_548 hF_547; replace hF_547 : RepV _ _ _ _ _ := hF_547
                replace S1 := S1.put (by decide : 92 < 152) (v_548)
                intro v_550 hF_549; obtain rfl : v_550 = .bool q_97 := hF_549
                replace S1 := S1.put (by decide : 91 < 152) (.bool q_97)
                refine fill_nil S1 ?_; clear S1; intro a_ S1
                rw [show q_97 = true from hl4] at S1
                have S0 := S.defers; replace S := S1; clear S1
                obtain ⟨ey_115, _⟩ := (HG_114).1 hc4
                refine w_go S rfl (op_indexAddr S rfl ty23 rfl rfl rfl hF_547 rfl ey_115 ?_)
                clear S; intro a p_551 R_552 H_553 S
                refine wpList_nil ?_
                exact RPost.mk_ S rfl S0 ⟨fun _ => ⟨_, rfl, R_552, H_553⟩, fun k_ => absurd hc4 k_⟩ (Below.refl _ _)
              · have hl4 : q_97 = false := Bool.eq_false_iff.2 hc4
                have S1 := S
                intro v_554 hF_555
                obtain rfl := cndF.neg hF_555 hc4
                replace S1 := S1.put (by decide : 92 < 152) (undef)
                intro v_557 hF_556; obtain rfl : v_557 = .bool q_97 := hF_556
                replace S1 := S1.put (by decide : 91 < 152) (.bool q_97)
                refine fill_nil S1 ?_; clear S1; intro a_ S1
                rw [show q_97 = false from hl4] at S1
                have S0 := S.defers; replace S := S1; clear S1
                refine wl_pure (l' := [(93, undef), (91, .bool false), (92, undef), (49, .bool (t_51.2 != 0)), (10, .int .i64 t_51.2), (9, .pointer (some (⟨b_58, 0, .none⟩ : Addr))), (1, v1)]) S tys tys_ok 1 (by kernel_rfl) ?_; clear S; intro a S
                refine wpList_nil ?_
                exact RPost.mk_ S rfl S0 ⟨fun k_ => absurd k_ hc4, fun _ => rfl⟩ (Below.refl _ _)
            refine RunAll.cons (cndF q_97 true (isI .u8 y_115)) [(cndF q_97 true (isEl (.int .u8) (Kx K w.heap.size [some b_58, some b_39, some b_1]) y_115), 93), (eqv (.bool q_97), 91)] rfl rfl ?_ ?_
            · intro W_ hW
              by_cases hc4 : q_97 = true
              · have hl4 : q_97 = true := hc4
                have S1 := S
                intro v_558 hF_559
                replace hF_559 := cndF.pos hF_559 hc4
                revert hF_559
                revert v_558
                rintro _ ⟨p_562, rfl, R_563, H_564⟩
                replace S1 := S1.put (by decide : 93 < 152) (.pointer (some p_562))
                intro v_566 hF_565; obtain rfl : v_566 = .bool q_97 := hF_565
                replace S1 := S1.put (by decide : 91 < 152) (.bool q_97)
                refine fill_nil S1 ?_; clear S1; intro a_ S1
                rw [show q_97 = true from hl4] at S1
                have S0 := S.defers; replace S := S1; clear S1
                obtain ⟨ey_115, _⟩ := (HG_114).1 hc4
                refine w_go S rfl (op_load (t := (.int .u8)) (x := y_115) S rfl ty5 rfl rfl rfl R_563 ?_)
                clear S; intro a v_567 R_568 S
                obtain ⟨rfl, GR_568⟩ := RepV.int R_568
                refine wpList_nil ?_
                exact RPost.mk_ S rfl S0 ⟨fun _ => ⟨rfl, GR_568⟩, fun k_ => absurd hc4 k_⟩ (Below.refl _ _)
              · have hl4 : q_97 = false := Bool.eq_false_iff.2 hc4
                have S1 := S
                intro v_569 hF_570
                obtain rfl := cndF.neg hF_570 hc4
                replace S1 := S1.put (by decide : 93 < 152) (undef)
                intro v_572 hF_571; obtain rfl : v_572 = .bool q_97 := hF_571
                replace S1 := S1.put (by decide : 91 < 152) (.bool q_97)
                refine fill_nil S1 ?_; clear S1; intro a_ S1
                rw [show q_97 = false from hl4] at S1
                have S0 := S.defers; replace S := S1; clear S1
                refine wl_pure (l' := [(94, undef), (91, .bool false), (93, undef), (49, .bool (t_51.2 != 0)), (10, .int .i64 t_51.2), (9, .pointer (some (⟨b_58, 0, .none⟩ : Addr))), (1, v1)]) S tys tys_ok 1 (by kernel_rfl) ?_; clear S; intro a S
                refine wpList_nil ?_
                exact RPost.mk_ S rfl S0 ⟨fun k_ => absurd k_ hc4, fun _ => rfl⟩ (Below.refl _ _)
            refine RunAll.cons (cndF q_97 true (eqv (.bool (decide (y_115 > 0))))) [(cndF q_97 true (isI .u8 y_115), 94), (eqv (.bool q_97), 91)] rfl rfl ?_ ?_
            · intro W_ hW
              by_cases hc4 : q_97 = true
              · have hl4 : q_97 = true := hc4
                have S1 := S
                intro v_573 hF_574
                replace hF_574 := cndF.pos hF_574 hc4
                revert hF_574
                revert v_573
                rintro _ ⟨rfl, hF_575⟩
                replace S1 := S1.put (by decide : 94 < 152) (.int .u8 y_115)
                intro v_578 hF_577; obtain rfl : v_578 = .bool q_97 := hF_577
                replace S1 := S1.put (by decide : 91 < 152) (.bool q_97)
                refine fill_nil S1 ?_; clear S1; intro a_ S1
                rw [show q_97 = true from hl4] at S1
                have S0 := S.defers; replace S := S1; clear S1
                refine wl_pure (l' := [(95, .bool (decide (y_115 > 0))), (91, .bool true), (94, .int .u8 y_115), (49, .bool (t_51.2 != 0)), (10, .int .i64 t_51.2), (9, .pointer (some (⟨b_58, 0, .none⟩ : Addr))), (1, v1)]) S tys tys_ok 1 (by kernel_rfl) ?_; clear S; intro a S
                refine wpList_nil ?_
                exact RPost.mk_ S rfl S0 ⟨fun _ => rfl, fun k_ => absurd hc4 k_⟩ (Below.refl _ _)
              · have hl4 : q_97 = false := Bool.eq_false_iff.2 hc4
                have S1 := S
                intro v_579 hF_580
                obtain rfl := cndF.neg hF_580 hc4
                replace S1 := S1.put (by decide : 94 < 152) (undef)
                intro v_582 hF_581; obtain rfl : v_582 = .bool q_97 := hF_581
                replace S1 := S1.put (by decide : 91 < 152) (.bool q_97)
                refine fill_nil S1 ?_; clear S1; intro a_ S1
                rw [show q_97 = false from hl4] at S1
                have S0 := S.defers; replace S := S1; clear S1
                refine wl_pure (l' := [(95, undef), (91, .bool false), (94, undef), (49, .bool (t_51.2 != 0)), (10, .int .i64 t_51.2), (9, .pointer (some (⟨b_58, 0, .none⟩ : Addr))), (1, v1)]) S tys tys_ok 1 (by kernel_rfl) ?_; clear S; intro a S
                refine wpList_nil ?_
                exact RPost.mk_ S rfl S0 ⟨fun k_ => absurd k_ hc4, fun _ => rfl⟩ (Below.refl _ _)
            refine RunAll.cons (eqv (.bool q_113)) [(eqv (.bool q_97), 91), (cndF q_97 true (eqv (.bool (decide (y_115 > 0)))), 95)] rfl rfl ?_ ?_
            · intro W_ hW
              by_cases hc4 : q_97 = true
              · have hl4 : q_97 = true := hc4
                have S1 := S
                intro v_584 hF_583; obtain rfl : v_584 = .bool q_97 := hF_583
                replace S1 := S1.put (by decide : 91 < 152) (.bool q_97)
                intro v_585 hF_586
                replace hF_586 := cndF.pos hF_586 hc4
                revert hF_586
                revert v_585
                intro v_588 hF_587; obtain rfl : v_588 = .bool (decide (y_115 > 0)) := hF_587
                replace S1 := S1.put (by decide : 95 < 152) (.bool (decide (y_115 > 0)))
                refine fill_nil S1 ?_; clear S1; intro a_ S1
                rw [show q_97 = true from hl4] at S1
                have S0 := S.defers; replace S := S1; clear S1
                refine wl_pure (l' := [(96, .bool (decide (y_115 > 0))), (95, .bool (decide (y_115 > 0))), (91, .bool true), (49, .bool (t_51.2 != 0)), (10, .int .i64 t_51.2), (9, .pointer (some (⟨b_58, 0, .none⟩ : Addr))), (1, v1)]) S tys tys_ok 1 (by kernel_rfl) ?_; clear S; intro a S
                refine wpList_nil ?_
                exact RPost.mk_ S rfl S0 (congrArg Value.bool ((HG_114).1 hc4).2) (Below.refl _ _)
              · have hl4 : q_97 = false := Bool.eq_false_iff.2 hc4
                have S1 := S
                intro v_590 hF_589; obtain rfl : v_590 = .bool q_97 := hF_589
                replace S1 := S1.put (by decide : 91 < 152) (.bool q_97)
                intro v_591 hF_592
                obtain rfl := cndF.neg hF_592 hc4
                replace S1 := S1.put (by decide : 95 < 152) (undef)
                refine fill_nil S1 ?_; clear S1; intro a_ S1
                rw [show q_97 = false from hl4] at S1
                have S0 := S.defers; replace S := S1; clear S1
                refine wl_pure (l' := [(96, .bool false), (95, undef), (91, .bool false), (49, .bool (t_51.2 != 0)), (10, .int .i64 t_51.2), (9, .pointer (some (⟨b_58, 0, .none⟩ : Addr))), (1, v1)]) S tys tys_ok 1 (by kernel_rfl) ?_; clear S; intro a S
                refine wpList_nil ?_
                exact RPost.mk_ S rfl S0 (congrArg Value.bool ((HG_114).2 hc4)) (Below.refl _ _)
            refine RunAll.cons (eqv (.bool q_113)) [(eqv (.bool q_113), 96)] rfl rfl ?_ ?_
            · intro W_ hW
              have S1 := S
              intro v_594 hF_593; obtain rfl : v_594 = .bool q_113 := hF_593
              replace S1 := S1.put (by decide : 96 < 152) (.bool q_113)
              refine fill_nil S1 ?_; clear S1; intro a_ S1
              have S0 := S.defers; replace S := S1; clear S1
              refine wl_pure (l' := [(97, .bool q_113), (96, .bool q_113), (49, .bool (t_51.2 != 0)), (10, .int .i64 t_51.2), (9, .pointer (some (⟨b_58, 0, .none⟩ : Addr))), (1, v1)]) S tys tys_ok 1 (by kernel_rfl) ?_; clear S; intro a S
              refine wpList_nil ?_
              exact RPost.mk_ S rfl S0 rfl (Below.refl _ _)
            refine RunAll.cons (cndF q_113 true (isRep (.sl (.int .u8)) (Kx K w.heap.size [some b_58, some b_39, some b_1]) x1)) [(eqv (.bool q_113), 97)] rfl rfl ?_ ?_
            · intro W_ hW
              by_cases hc5 : q_113 = true
              · have hl5 : q_113 = true := hc5
                have S1 := S
                intro v_596 hF_595; obtain rfl : v_596 = .bool q_113 := hF_595
                replace S1 := S1.put (by decide : 97 < 152) (.bool q_113)
                refine fill_nil S1 ?_; clear S1; intro a_ S1
                replace R1 := R1.step hW
                rw [show q_113 = true from hl5] at S1
                have S0 := S.defers; replace S := S1; clear S1
                refine wl_pure (l' := [(98, v1), (97, .bool true), (49, .bool (t_51.2 != 0)), (10, .int .i64 t_51.2), (9, .pointer (some (⟨b_58, 0, .none⟩ : Addr))), (1, v1)]) S tys tys_ok 1 (by kernel_rfl) ?_; clear S; intro a S
                refine wpList_nil ?_
                exact RPost.mk_ S rfl S0 ⟨fun _ => R1, fun k_ => absurd hc5 k_⟩ (Below.refl _ _)
              · have hl5 : q_113 = false := Bool.eq_false_iff.2 hc5
                have S1 := S
                intro v_598 hF_597; obtain rfl : v_598 = .bool q_113 := hF_597
                replace S1 := S1.put (by decide : 97 < 152) (.bool q_113)
                refine fill_nil S1 ?_; clear S1; intro a_ S1
                rw [show q_113 = false from hl5] at S1
                have S0 := S.defers; replace S := S1; clear S1
                refine wl_pure (l' := [(98, undef), (97, .bool false), (49, .bool (t_51.2 != 0)), (10, .int .i64 t_51.2), (9, .pointer (some (⟨b_58, 0, .none⟩ : Addr))), (1, v1)]) S tys tys_ok 1 (by kernel_rfl) ?_; clear S; intro a S
                refine wpList_nil ?_
                exact RPost.mk_ S rfl S0 ⟨fun k_ => absurd k_ hc5, fun _ => rfl⟩ (Below.refl _ _)
            refine RunAll.cons (cndF q_113 true (isEl (.int .u8) (Kx K w.heap.size [some b_58, some b_39, some b_1]) y_123)) [(cndF q_113 true (isRep (.sl (.int .u8)) (Kx K w.heap.size [some b_58, some b_39, some b_1]) x1), 98), (eqv (.bool q_113), 97)] rfl rfl ?_ ?_
            · intro W_ hW
              by_cases hc5 : q_113 = true
              · have hl5 : q_113 = true := hc5
                have S1 := S
                intro v_599 hF_600
                replace hF_600 := cndF.pos hF_600 hc5
                revert hF_600
                revert v_599
                intro v_602 hF_601; replace hF_601 : RepV _ _ _ _ _ := hF_601
                replace S1 := S1.put (by decide : 98 < 152) (v_602)
                intro v_604 hF_603; obtain rfl : v_604 = .bool q_113 := hF_603
                replace S1 := S1.put (by decide : 97 < 152) (.bool q_113)
                refine fill_nil S1 ?_; clear S1; intro a_ S1
                rw [show q_113 = true from hl5] at S1
                have S0 := S.defers; replace S := S1; clear S1
                obtain ⟨ey_123, _⟩ := (HG_122).1 hc5
                refine w_go S rfl (op_indexAddr S rfl ty23 rfl rfl rfl hF_601 rfl ey_123 ?_)
                clear S; intro a p_605 R_606 H_607 S
                refine wpList_nil ?_
                exact RPost.mk_ S rfl S0 ⟨fun _ => ⟨_, rfl, R_606, H_607⟩, fun k_ => absurd hc5 k_⟩ (Below.refl _ _)
              · have hl5 : q_113 = false := Bool.eq_false_iff.2 hc5
                have S1 := S
                intro v_608 hF_609
                obtain rfl := cndF.neg hF_609 hc5
                replace S1 := S1.put (by decide : 98 < 152) (undef)
                intro v_611 hF_610; obtain rfl : v_611 = .bool q_113 := hF_610
                replace S1 := S1.put (by decide : 97 < 152) (.bool q_113)
                refine fill_nil S1 ?_; clear S1; intro a_ S1
                rw [show q_113 = false from hl5] at S1
                have S0 := S.defers; replace S := S1; clear S1
                refine wl_pure (l' := [(99, undef), (97, .bool false), (98, undef), (49, .bool (t_51.2 != 0)), (10, .int .i64 t_51.2), (9, .pointer (some (⟨b_58, 0, .none⟩ : Addr))), (1, v1)]) S tys tys_ok 1 (by kernel_rfl) ?_; clear S; intro a S
                refine wpList_nil ?_
                exact RPost.mk_ S rfl S0 ⟨fun k_ => absurd k_ hc5, fun _ => rfl⟩ (Below.refl _ _)
            refine RunAll.cons (cndF q_113 true (isI .u8 y_123)) [(cndF q_113 true (isEl (.int .u8) (Kx K w.heap.size [some b_58, some b_39, some b_1]) y_123), 99), (eqv (.bool q_113), 97)] rfl rfl ?_ ?_
            · intro W_ hW
              by_cases hc5 : q_113 = true
              · have hl5 : q_113 = true := hc5
                have S1 := S
                intro v_612 hF_613
                replace hF_613 := cndF.pos hF_613 hc5
                revert hF_613
                revert v_612
                rintro _ ⟨p_616, rfl, R_617, H_618⟩
                replace S1 := S1.put (by decide : 99 < 152) (.pointer (some p_616))
                intro v_620 hF_619; obtain rfl : v_620 = .bool q_113 := hF_619
                replace S1 := S1.put (by decide : 97 < 152) (.bool q_113)
                refine fill_nil S1 ?_; clear S1; intro a_ S1
                rw [show q_113 = true from hl5] at S1
                have S0 := S.defers; replace S := S1; clear S1
                obtain ⟨ey_123, _⟩ := (HG_122).1 hc5
                refine w_go S rfl (op_load (t := (.int .u8)) (x := y_123) S rfl ty5 rfl rfl rfl R_617 ?_)
                clear S; intro a v_621 R_622 S
                obtain ⟨rfl, GR_622⟩ := RepV.int R_622
                refine wpList_nil ?_
                exact RPost.mk_ S rfl S0 ⟨fun _ => ⟨rfl, GR_622⟩, fun k_ => absurd hc5 k_⟩ (Below.refl _ _)
              · have hl5 : q_113 = false := Bool.eq_false_iff.2 hc5
                have S1 := S
                intro v_623 hF_624
                obtain rfl := cndF.neg hF_624 hc5
                replace S1 := S1.put (by decide : 99 < 152) (undef)
                intro v_626 hF_625; obtain rfl : v_626 = .bool q_113 := hF_625
                replace S1 := S1.put (by decide : 97 < 152) (.bool q_113)
                refine fill_nil S1 ?_; clear S1; intro a_ S1
                rw [show q_113 = false from hl5] at S1
                have S0 := S.defers; replace S := S1; clear S1
                refine wl_pure (l' := [(100, undef), (97, .bool false), (99, undef), (49, .bool (t_51.2 != 0)), (10, .int .i64 t_51.2), (9, .pointer (some (⟨b_58, 0, .none⟩ : Addr))), (1, v1)]) S tys tys_ok 1 (by kernel_rfl) ?_; clear S; intro a S
                refine wpList_nil ?_
                exact RPost.mk_ S rfl S0 ⟨fun k_ => absurd k_ hc5, fun _ => rfl⟩ (Below.refl _ _)
            refine RunAll.cons (cndF q_113 true (eqv (.bool (decide (y_123 < 17))))) [(cndF q_113 true (isI .u8 y_123), 100), (eqv (.bool q_113), 97)] rfl rfl ?_ ?_
            · intro W_ hW
              by_cases hc5 : q_113 = true
              · have hl5 : q_113 = true := hc5
                have S1 := S
                intro v_627 hF_628
                replace hF_628 := cndF.pos hF_628 hc5
                revert hF_628
                revert v_627
                rintro _ ⟨rfl, hF_629⟩
                replace S1 := S1.put (by decide : 100 < 152) (.int .u8 y_123)
                intro v_632 hF_631; obtain rfl : v_632 = .bool q_113 := hF_631
                replace S1 := S1.put (by decide : 97 < 152) (.bool q_113)
                refine fill_nil S1 ?_; clear S1; intro a_ S1
                rw [show q_113 = true from hl5] at S1
                have S0 := S.defers; replace S := S1; clear S1
                refine wl_pure (l' := [(101, .bool (decide (y_123 < 17))), (97, .bool true), (100, .int .u8 y_123), (49, .bool (t_51.2 != 0)), (10, .int .i64 t_51.2), (9, .pointer (some (⟨b_58, 0, .none⟩ : Addr))), (1, v1)]) S tys tys_ok 1 (by kernel_rfl) ?_; clear S; intro a S
                refine wpList_nil ?_
                exact RPost.mk_ S rfl S0 ⟨fun _ => rfl, fun k_ => absurd hc5 k_⟩ (Below.refl _ _)
              · have hl5 : q_113 = false := Bool.eq_false_iff.2 hc5
                have S1 := S
                intro v_633 hF_634
                obtain rfl := cndF.neg hF_634 hc5
                replace S1 := S1.put (by decide : 100 < 152) (undef)
                intro v_636 hF_635; obtain rfl : v_636 = .bool q_113 := hF_635
                replace S1 := S1.put (by decide : 97 < 152) (.bool q_113)
                refine fill_nil S1 ?_; clear S1; intro a_ S1
                rw [show q_113 = false from hl5] at S1
                have S0 := S.defers; replace S := S1; clear S1
                refine wl_pure (l' := [(101, undef), (97, .bool false), (100, undef), (49, .bool (t_51.2 != 0)), (10, .int .i64 t_51.2), (9, .pointer (some (⟨b_58, 0, .none⟩ : Addr))), (1, v1)]) S tys tys_ok 1 (by kernel_rfl) ?_; clear S; intro a S
                refine wpList_nil ?_
                exact RPost.mk_ S rfl S0 ⟨fun k_ => absurd k_ hc5, fun _ => rfl⟩ (Below.refl _ _)
            refine RunAll.cons (eqv (.bool q_121)) [(eqv (.bool q_113), 97), (cndF q_113 true (eqv (.bool (decide (y_123 < 17)))), 101)] rfl rfl ?_ ?_
            · intro W_ hW
              by_cases hc5 : q_113 = true
              · have hl5 : q_113 = true := hc5
                have S1 := S
                intro v_638 hF_637; obtain rfl : v_638 = .bool q_113 := hF_637
                replace S1 := S1.put (by decide : 97 < 152) (.bool q_113)
                intro v_639 hF_640
                replace hF_640 := cndF.pos hF_640 hc5
                revert hF_640
                revert v_639
                intro v_642 hF_641; obtain rfl : v_642 = .bool (decide (y_123 < 17)) := hF_641
                replace S1 := S1.put (by decide : 101 < 152) (.bool (decide (y_123 < 17)))
                refine fill_nil S1 ?_; clear S1; intro a_ S1
                rw [show q_113 = true from hl5] at S1
                have S0 := S.defers; replace S := S1; clear S1
                refine wl_pure (l' := [(102, .bool (decide (y_123 < 17))), (101, .bool (decide (y_123 < 17))), (97, .bool true), (49, .bool (t_51.2 != 0)), (10, .int .i64 t_51.2), (9, .pointer (some (⟨b_58, 0, .none⟩ : Addr))), (1, v1)]) S tys tys_ok 1 (by kernel_rfl) ?_; clear S; intro a S
                refine wpList_nil ?_
                exact RPost.mk_ S rfl S0 (congrArg Value.bool ((HG_122).1 hc5).2) (Below.refl _ _)
              · have hl5 : q_113 = false := Bool.eq_false_iff.2 hc5
                have S1 := S
                intro v_644 hF_643; obtain rfl : v_644 = .bool q_113 := hF_643
                replace S1 := S1.put (by decide : 97 < 152) (.bool q_113)
                intro v_645 hF_646
                obtain rfl := cndF.neg hF_646 hc5
                replace S1 := S1.put (by decide : 101 < 152) (undef)
                refine fill_nil S1 ?_; clear S1; intro a_ S1
                rw [show q_113 = false from hl5] at S1
                have S0 := S.defers; replace S := S1; clear S1
                refine wl_pure (l' := [(102, .bool false), (101, undef), (97, .bool false), (49, .bool (t_51.2 != 0)), (10, .int .i64 t_51.2), (9, .pointer (some (⟨b_58, 0, .none⟩ : Addr))), (1, v1)]) S tys tys_ok 1 (by kernel_rfl) ?_; clear S; intro a S
                refine wpList_nil ?_
                exact RPost.mk_ S rfl S0 (congrArg Value.bool ((HG_122).2 hc5)) (Below.refl _ _)
            refine RunAll.cons (eqv (.bool q_121)) [(eqv (.bool q_121), 102)] rfl rfl ?_ ?_
            · intro W_ hW
              have S1 := S
              intro v_648 hF_647; obtain rfl : v_648 = .bool q_121 := hF_647
              replace S1 := S1.put (by decide : 102 < 152) (.bool q_121)
              refine fill_nil S1 ?_; clear S1; intro a_ S1
              have S0 := S.defers; replace S := S1; clear S1
              refine wl_pure (l' := [(103, .bool q_121), (102, .bool q_121), (49, .bool (t_51.2 != 0)), (10, .int .i64 t_51.2), (9, .pointer (some (⟨b_58, 0, .none⟩ : Addr))), (1, v1)]) S tys tys_ok 1 (by kernel_rfl) ?_; clear S; intro a S
              refine wpList_nil ?_
              exact RPost.mk_ S rfl S0 rfl (Below.refl _ _)
            refine RunAll.cons (cndF q_121 true (isRep (.sl (.int .u8)) (Kx K w.heap.size [some b_58, some b_39, some b_1]) x1)) [(eqv (.bool q_121), 103)] rfl rfl ?_ ?_
            · intro W_ hW
              by_cases hc6 : q_121 = true
              · have hl6 : q_121 = true := hc6
                have S1 := S
                intro v_650 hF_649; obtain rfl : v_650 = .bool q_121 := hF_649
                replace S1 := S1.put (by decide : 103 < 152) (.bool q_121)
                refine fill_nil S1 ?_; clear S1; intro a_ S1
                replace R1 := R1.step hW
                rw [show q_121 = true from hl6] at S1
                have S0 := S.defers; replace S := S1; clear S1
                refine wl_pure (l' := [(104, v1), (103, .bool true), (49, .bool (t_51.2 != 0)), (10, .int .i64 t_51.2), (9, .pointer (some (⟨b_58, 0, .none⟩ : Addr))), (1, v1)]) S tys tys_ok 1 (by kernel_rfl) ?_; clear S; intro a S
                refine wpList_nil ?_
                exact RPost.mk_ S rfl S0 ⟨fun _ => R1, fun k_ => absurd hc6 k_⟩ (Below.refl _ _)
              · have hl6 : q_121 = false := Bool.eq_false_iff.2 hc6
                have S1 := S
                intro v_652 hF_651; obtain rfl : v_652 = .bool q_121 := hF_651
                replace S1 := S1.put (by decide : 103 < 152) (.bool q_121)
                refine fill_nil S1 ?_; clear S1; intro a_ S1
                rw [show q_121 = false from hl6] at S1
                have S0 := S.defers; replace S := S1; clear S1
                refine wl_pure (l' := [(104, undef), (103, .bool false), (49, .bool (t_51.2 != 0)), (10, .int .i64 t_51.2), (9, .pointer (some (⟨b_58, 0, .none⟩ : Addr))), (1, v1)]) S tys tys_ok 1 (by kernel_rfl) ?_; clear S; intro a S
                refine wpList_nil ?_
                exact RPost.mk_ S rfl S0 ⟨fun k_ => absurd k_ hc6, fun _ => rfl⟩ (Below.refl _ _)
            refine RunAll.cons (cndF q_121 true (isEl (.int .u8) (Kx K w.heap.size [some b_58, some b_39, some b_1]) y_131)) [(cndF q_121 true (isRep (.sl (.int .u8)) (Kx K w.heap.size [some b_58, some b_39, some b_1]) x1), 104), (eqv (.bool q_121), 103)] rfl rfl ?_ ?_
            · intro W_ hW
              by_cases hc6 : q_121 = true
              · have hl6 : q_121 = true := hc6
                have S1 := S
                intro v_653 hF_654
                replace hF_654 := cndF.pos hF_654 hc6
                revert hF_654
                revert v_653
                intro v_656 hF_655; replace hF_655 : RepV _ _ _ _ _ := hF_655
                replace S1 := S1.put (by decide : 104 < 152) (v_656)
                intro v_658 hF_657; obtain rfl : v_658 = .bool q_121 := hF_657
                replace S1 := S1.put (by decide : 103 < 152) (.bool q_121)
                refine fill_nil S1 ?_; clear S1; intro a_ S1
                rw [show q_121 = true from hl6] at S1
                have S0 := S.defers; replace S := S1; clear S1
                obtain ⟨ey_131, _⟩ := (HG_130).1 hc6
                refine w_go S rfl (op_indexAddr S rfl ty23 rfl rfl rfl hF_655 rfl ey_131 ?_)
                clear S; intro a p_659 R_660 H_661 S
                refine wpList_nil ?_
                exact RPost.mk_ S rfl S0 ⟨fun _ => ⟨_, rfl, R_660, H_661⟩, fun k_ => absurd hc6 k_⟩ (Below.refl _ _)
              · have hl6 : q_121 = false := Bool.eq_false_iff.2 hc6
                have S1 := S
                intro v_662 hF_663
                obtain rfl := cndF.neg hF_663 hc6
                replace S1 := S1.put (by decide : 104 < 152) (undef)
                intro v_665 hF_664; obtain rfl : v_665 = .bool q_121 := hF_664
                replace S1 := S1.put (by decide : 103 < 152) (.bool q_121)
                refine fill_nil S1 ?_; clear S1; intro a_ S1
                rw [show q_121 = false from hl6] at S1
                have S0 := S.defers; replace S := S1; clear S1
                refine wl_pure (l' := [(105, undef), (103, .bool false), (104, undef), (49, .bool (t_51.2 != 0)), (10, .int .i64 t_51.2), (9, .pointer (some (⟨b_58, 0, .none⟩ : Addr))), (1, v1)]) S tys tys_ok 1 (by kernel_rfl) ?_; clear S; intro a S
                refine wpList_nil ?_
                exact RPost.mk_ S rfl S0 ⟨fun k_ => absurd k_ hc6, fun _ => rfl⟩ (Below.refl _ _)
            refine RunAll.cons (cndF q_121 true (isI .u8 y_131)) [(cndF q_121 true (isEl (.int .u8) (Kx K w.heap.size [some b_58, some b_39, some b_1]) y_131), 105), (eqv (.bool q_121), 103)] rfl rfl ?_ ?_
            · intro W_ hW
              by_cases hc6 : q_121 = true
              · have hl6 : q_121 = true := hc6
                have S1 := S
                intro v_666 hF_667
                replace hF_667 := cndF.pos hF_667 hc6
                revert hF_667
                revert v_666
                rintro _ ⟨p_670, rfl, R_671, H_672⟩
                replace S1 := S1.put (by decide : 105 < 152) (.pointer (some p_670))
                intro v_674 hF_673; obtain rfl : v_674 = .bool q_121 := hF_673
                replace S1 := S1.put (by decide : 103 < 152) (.bool q_121)
                refine fill_nil S1 ?_; clear S1; intro a_ S1
                rw [show q_121 = true from hl6] at S1
                have S0 := S.defers; replace S := S1; clear S1
                obtain ⟨ey_131, _⟩ := (HG_130).1 hc6
                refine w_go S rfl (op_load (t := (.int .u8)) (x := y_131) S rfl ty5 rfl rfl rfl R_671 ?_)
                clear S; intro a v_675 R_676 S
                obtain ⟨rfl, GR_676⟩ := RepV.int R_676
                refine wpList_nil ?_
                exact RPost.mk_ S rfl S0 ⟨fun _ => ⟨rfl, GR_676⟩, fun k_ => absurd hc6 k_⟩ (Below.refl _ _)
              · have hl6 : q_121 = false := Bool.eq_false_iff.2 hc6
                have S1 := S
                intro v_677 hF_678
                obtain rfl := cndF.neg hF_678 hc6
                replace S1 := S1.put (by decide : 105 < 152) (undef)
                intro v_680 hF_679; obtain rfl : v_680 = .bool q_121 := hF_679
                replace S1 := S1.put (by decide : 103 < 152) (.bool q_121)
                refine fill_nil S1 ?_; clear S1; intro a_ S1
                rw [show q_121 = false from hl6] at S1
                have S0 := S.defers; replace S := S1; clear S1
                refine wl_pure (l' := [(106, undef), (103, .bool false), (105, undef), (49, .bool (t_51.2 != 0)), (10, .int .i64 t_51.2), (9, .pointer (some (⟨b_58, 0, .none⟩ : Addr))), (1, v1)]) S tys tys_ok 1 (by kernel_rfl) ?_; clear S; intro a S
                refine wpList_nil ?_
                exact RPost.mk_ S rfl S0 ⟨fun k_ => absurd k_ hc6, fun _ => rfl⟩ (Below.refl _ _)
            refine RunAll.cons (cndF q_121 true (eqv (.bool (decide (y_131 > 0))))) [(cndF q_121 true (isI .u8 y_131), 106), (eqv (.bool q_121), 103)] rfl rfl ?_ ?_
            · intro W_ hW
              by_cases hc6 : q_121 = true
              · have hl6 : q_121 = true := hc6
                have S1 := S
                intro v_681 hF_682
                replace hF_682 := cndF.pos hF_682 hc6
                revert hF_682
                revert v_681
                rintro _ ⟨rfl, hF_683⟩
                replace S1 := S1.put (by decide : 106 < 152) (.int .u8 y_131)
                intro v_686 hF_685; obtain rfl : v_686 = .bool q_121 := hF_685
                replace S1 := S1.put (by decide : 103 < 152) (.bool q_121)
                refine fill_nil S1 ?_; clear S1; intro a_ S1
                rw [show q_121 = true from hl6] at S1
                have S0 := S.defers; replace S := S1; clear S1
                refine wl_pure (l' := [(107, .bool (decide (y_131 > 0))), (103, .bool true), (106, .int .u8 y_131), (49, .bool (t_51.2 != 0)), (10, .int .i64 t_51.2), (9, .pointer (some (⟨b_58, 0, .none⟩ : Addr))), (1, v1)]) S tys tys_ok 1 (by kernel_rfl) ?_; clear S; intro a S
                refine wpList_nil ?_
                exact RPost.mk_ S rfl S0 ⟨fun _ => rfl, fun k_ => absurd hc6 k_⟩ (Below.refl _ _)
              · have hl6 : q_121 = false := Bool.eq_false_iff.2 hc6
                have S1 := S
                intro v_687 hF_688
                obtain rfl := cndF.neg hF_688 hc6
                replace S1 := S1.put (by decide : 106 < 152) (undef)
                intro v_690 hF_689; obtain rfl : v_690 = .bool q_121 := hF_689
                replace S1 := S1.put (by decide : 103 < 152) (.bool q_121)
                refine fill_nil S1 ?_; clear S1; intro a_ S1
                rw [show q_121 = false from hl6] at S1
                have S0 := S.defers; replace S := S1; clear S1
                refine wl_pure (l' := [(107, undef), (103, .bool false), (106, undef), (49, .bool (t_51.2 != 0)), (10, .int .i64 t_51.2), (9, .pointer (some (⟨b_58, 0, .none⟩ : Addr))), (1, v1)]) S tys tys_ok 1 (by kernel_rfl) ?_; clear S; intro a S
                refine wpList_nil ?_
                exact RPost.mk_ S rfl S0 ⟨fun k_ => absurd k_ hc6, fun _ => rfl⟩ (Below.refl _ _)
            refine RunAll.cons (eqv (.bool q_129)) [(eqv (.bool q_121), 103), (cndF q_121 true (eqv (.bool (decide (y_131 > 0)))), 107)] rfl rfl ?_ ?_
            · intro W_ hW
              by_cases hc6 : q_121 = true
              · have hl6 : q_121 = true := hc6
                have S1 := S
                intro v_692 hF_691; obtain rfl : v_692 = .bool q_121 := hF_691
                replace S1 := S1.put (by decide : 103 < 152) (.bool q_121)
                intro v_693 hF_694
                replace hF_694 := cndF.pos hF_694 hc6
                revert hF_694
                revert v_693
                intro v_696 hF_695; obtain rfl : v_696 = .bool (decide (y_131 > 0)) := hF_695
                replace S1 := S1.put (by decide : 107 < 152) (.bool (decide (y_131 > 0)))
                refine fill_nil S1 ?_; clear S1; intro a_ S1
                rw [show q_121 = true from hl6] at S1
                have S0 := S.defers; replace S := S1; clear S1
                refine wl_pure (l' := [(108, .bool (decide (y_131 > 0))), (107, .bool (decide (y_131 > 0))), (103, .bool true), (49, .bool (t_51.2 != 0)), (10, .int .i64 t_51.2), (9, .pointer (some (⟨b_58, 0, .none⟩ : Addr))), (1, v1)]) S tys tys_ok 1 (by kernel_rfl) ?_; clear S; intro a S
                refine wpList_nil ?_
                exact RPost.mk_ S rfl S0 (congrArg Value.bool ((HG_130).1 hc6).2) (Below.refl _ _)
              · have hl6 : q_121 = false := Bool.eq_false_iff.2 hc6
                have S1 := S
                intro v_698 hF_697; obtain rfl : v_698 = .bool q_121 := hF_697
                replace S1 := S1.put (by decide : 103 < 152) (.bool q_121)
                intro v_699 hF_700
                obtain rfl := cndF.neg hF_700 hc6
                replace S1 := S1.put (by decide : 107 < 152) (undef)
                refine fill_nil S1 ?_; clear S1; intro a_ S1
                rw [show q_121 = false from hl6] at S1
                have S0 := S.defers; replace S := S1; clear S1
                refine wl_pure (l' := [(108, .bool false), (107, undef), (103, .bool false), (49, .bool (t_51.2 != 0)), (10, .int .i64 t_51.2), (9, .pointer (some (⟨b_58, 0, .none⟩ : Addr))), (1, v1)]) S tys tys_ok 1 (by kernel_rfl) ?_; clear S; intro a S
                refine wpList_nil ?_
                exact RPost.mk_ S rfl S0 (congrArg Value.bool ((HG_130).2 hc6)) (Below.refl _ _)
            refine RunAll.cons (eqv (.bool q_129)) [(eqv (.bool q_129), 108)] rfl rfl ?_ ?_
            · intro W_ hW
              have S1 := S
              intro v_702 hF_701; obtain rfl : v_702 = .bool q_129 := hF_701
              replace S1 := S1.put (by decide : 108 < 152) (.bool q_129)
              refine fill_nil S1 ?_; clear S1; intro a_ S1
              have S0 := S.defers; replace S := S1; clear S1
              refine wl_pure (l' := [(109, .bool q_129), (108, .bool q_129), (49, .bool (t_51.2 != 0)), (10, .int .i64 t_51.2), (9, .pointer (some (⟨b_58, 0, .none⟩ : Addr))), (1, v1)]) S tys tys_ok 1 (by kernel_rfl) ?_; clear S; intro a S
              refine wpList_nil ?_
              exact RPost.mk_ S rfl S0 rfl (Below.refl _ _)
            refine RunAll.cons (cndF q_129 true (isRep (.sl (.int .u8)) (Kx K w.heap.size [some b_58, some b_39, some b_1]) x1)) [(eqv (.bool q_129), 109)] rfl rfl ?_ ?_
            · intro W_ hW
              by_cases hc7 : q_129 = true
              · have hl7 : q_129 = true := hc7
                have S1 := S
                intro v_704 hF_703; obtain rfl : v_704 = .bool q_129 := hF_703
                replace S1 := S1.put (by decide : 109 < 152) (.bool q_129)
                refine fill_nil S1 ?_; clear S1; intro a_ S1
                replace R1 := R1.step hW
                rw [show q_129 = true from hl7] at S1
                have S0 := S.defers; replace S := S1; clear S1
                refine wl_pure (l' := [(110, v1), (109, .bool true), (49, .bool (t_51.2 != 0)), (10, .int .i64 t_51.2), (9, .pointer (some (⟨b_58, 0, .none⟩ : Addr))), (1, v1)]) S tys tys_ok 1 (by kernel_rfl) ?_; clear S; intro a S
                refine wpList_nil ?_
                exact RPost.mk_ S rfl S0 ⟨fun _ => R1, fun k_ => absurd hc7 k_⟩ (Below.refl _ _)
              · have hl7 : q_129 = false := Bool.eq_false_iff.2 hc7
                have S1 := S
                intro v_706 hF_705; obtain rfl : v_706 = .bool q_129 := hF_705
                replace S1 := S1.put (by decide : 109 < 152) (.bool q_129)
                refine fill_nil S1 ?_; clear S1; intro a_ S1
                rw [show q_129 = false from hl7] at S1
                have S0 := S.defers; replace S := S1; clear S1
                refine wl_pure (l' := [(110, undef), (109, .bool false), (49, .bool (t_51.2 != 0)), (10, .int .i64 t_51.2), (9, .pointer (some (⟨b_58, 0, .none⟩ : Addr))), (1, v1)]) S tys tys_ok 1 (by kernel_rfl) ?_; clear S; intro a S
                refine wpList_nil ?_
                exact RPost.mk_ S rfl S0 ⟨fun k_ => absurd k_ hc7, fun _ => rfl⟩ (Below.refl _ _)
            refine RunAll.cons (cndF q_129 true (isEl (.int .u8) (Kx K w.heap.size [some b_58, some b_39, some b_1]) y_139)) [(cndF q_129 true (isRep (.sl (.int .u8)) (Kx K w.heap.size [some b_58, some b_39, some b_1]) x1), 110), (eqv (.bool q_129), 109)] rfl rfl ?_ ?_
            · intro W_ hW
              by_cases hc7 : q_129 = true
              · have hl7 : q_129 = true := hc7
                have S1 := S
                intro v_707 hF_708
                replace hF_708 := cndF.pos hF_708 hc7
                revert hF_708
                revert v_707
                intro v_710 hF_709; replace hF_709 : RepV _ _ _ _ _ := hF_709
                replace S1 := S1.put (by decide : 110 < 152) (v_710)
                intro v_712 hF_711; obtain rfl : v_712 = .bool q_129 := hF_711
                replace S1 := S1.put (by decide : 109 < 152) (.bool q_129)
                refine fill_nil S1 ?_; clear S1; intro a_ S1
                rw [show q_129 = true from hl7] at S1
                have S0 := S.defers; replace S := S1; clear S1
                obtain ⟨ey_139, _⟩ := (HG_138).1 hc7
                refine w_go S rfl (op_indexAddr S rfl ty23 rfl rfl rfl hF_709 rfl ey_139 ?_)
                clear S; intro a p_713 R_714 H_715 S
                refine wpList_nil ?_
                exact RPost.mk_ S rfl S0 ⟨fun _ => ⟨_, rfl, R_714, H_715⟩, fun k_ => absurd hc7 k_⟩ (Below.refl _ _)
              · have hl7 : q_129 = false := Bool.eq_false_iff.2 hc7
                have S1 := S
                intro v_716 hF_717
                obtain rfl := cndF.neg hF_717 hc7
                replace S1 := S1.put (by decide : 110 < 152) (undef)
                intro v_719 hF_718; obtain rfl : v_719 = .bool q_129 := hF_718
                replace S1 := S1.put (by decide : 109 < 152) (.bool q_129)
                refine fill_nil S1 ?_; clear S1; intro a_ S1
                rw [show q_129 = false from hl7] at S1
                have S0 := S.defers; replace S := S1; clear S1
                refine wl_pure (l' := [(111, undef), (109, .bool false), (110, undef), (49, .bool (t_51.2 != 0)), (10, .int .i64 t_51.2), (9, .pointer (some (⟨b_58, 0, .none⟩ : Addr))), (1, v1)]) S tys tys_ok 1 (by kernel_rfl) ?_; clear S; intro a S
                refine wpList_nil ?_
                exact RPost.mk_ S rfl S0 ⟨fun k_ => absurd k_ hc7, fun _ => rfl⟩ (Below.refl _ _)
            refine RunAll.cons (cndF q_129 true (isI .u8 y_139)) [(cndF q_129 true (isEl (.int .u8) (Kx K w.heap.size [some b_58, some b_39, some b_1]) y_139), 111), (eqv (.bool q_129), 109)] rfl rfl ?_ ?_
            · intro W_ hW
              by_cases hc7 : q_129 = true
              · have hl7 : q_129 = true := hc7
                have S1 := S
                intro v_720 hF_721
                replace hF_721 := cndF.pos hF_721 hc7
                revert hF_721
                revert v_720
                rintro _ ⟨p_724, rfl, R_725, H_726⟩
                replace S1 := S1.put (by decide : 111 < 152) (.pointer (some p_724))
                intro v_728 hF_727; obtain rfl : v_728 = .bool q_129 := hF_727
                replace S1 := S1.put (by decide : 109 < 152) (.bool q_129)
                refine fill_nil S1 ?_; clear S1; intro a_ S1
                rw [show q_129 = true from hl7] at S1
                have S0 := S.defers; replace S := S1; clear S1
                obtain ⟨ey_139, _⟩ := (HG_138).1 hc7
                refine w_go S rfl (op_load (t := (.int .u8)) (x := y_139) S rfl ty5 rfl rfl rfl R_725 ?_)
                clear S; intro a v_729 R_730 S
                obtain ⟨rfl, GR_730⟩ := RepV.int R_730
                refine wpList_nil ?_
                exact RPost.mk_ S rfl S0 ⟨fun _ => ⟨rfl, GR_730⟩, fun k_ => absurd hc7 k_⟩ (Below.refl _ _)
              · have hl7 : q_129 = false := Bool.eq_false_iff.2 hc7
                have S1 := S
                intro v_731 hF_732
                obtain rfl := cndF.neg hF_732 hc7
                replace S1 := S1.put (by decide : 111 < 152) (undef)
                intro v_734 hF_733; obtain rfl : v_734 = .bool q_129 := hF_733
                replace S1 := S1.put (by decide : 109 < 152) (.bool q_129)
                refine fill_nil S1 ?_; clear S1; intro a_ S1
                rw [show q_129 = false from hl7] at S1
                have S0 := S.defers; replace S := S1; clear S1
                refine wl_pure (l' := [(112, undef), (109, .bool false), (111, undef), (49, .bool (t_51.2 != 0)), (10, .int .i64 t_51.2), (9, .pointer (some (⟨b_58, 0, .none⟩ : Addr))), (1, v1)]) S tys tys_ok 1 (by kernel_rfl) ?_; clear S; intro a S
                refine wpList_nil ?_
                exact RPost.mk_ S rfl S0 ⟨fun k_ => absurd k_ hc7, fun _ => rfl⟩ (Below.refl _ _)
            refine RunAll.cons (cndF q_129 true (eqv (.bool (decide (y_139 ≥ 128))))) [(cndF q_129 true (isI .u8 y_139), 112), (eqv (.bool q_129), 109)] rfl rfl ?_ ?_
            · intro W_ hW
              by_cases hc7 : q_129 = true
              · have hl7 : q_129 = true := hc7
                have S1 := S
                intro v_735 hF_736
                replace hF_736 := cndF.pos hF_736 hc7
                revert hF_736
                revert v_735
                rintro _ ⟨rfl, hF_737⟩
                replace S1 := S1.put (by decide : 112 < 152) (.int .u8 y_139)
                intro v_740 hF_739; obtain rfl : v_740 = .bool q_129 := hF_739
                replace S1 := S1.put (by decide : 109 < 152) (.bool q_129)
                refine fill_nil S1 ?_; clear S1; intro a_ S1
                rw [show q_129 = true from hl7] at S1
                have S0 := S.defers; replace S := S1; clear S1
                refine wl_pure (l' := [(113, .bool (decide (y_139 ≥ 128))), (109, .bool true), (112, .int .u8 y_139), (49, .bool (t_51.2 != 0)), (10, .int .i64 t_51.2), (9, .pointer (some (⟨b_58, 0, .none⟩ : Addr))), (1, v1)]) S tys tys_ok 1 (by kernel_rfl) ?_; clear S; intro a S
                refine wpList_nil ?_
                exact RPost.mk_ S rfl S0 ⟨fun _ => rfl, fun k_ => absurd hc7 k_⟩ (Below.refl _ _)
              · have hl7 : q_129 = false := Bool.eq_false_iff.2 hc7
                have S1 := S
                intro v_741 hF_742
                obtain rfl := cndF.neg hF_742 hc7
                replace S1 := S1.put (by decide : 112 < 152) (undef)
                intro v_744 hF_743; obtain rfl : v_744 = .bool q_129 := hF_743
                replace S1 := S1.put (by decide : 109 < 152) (.bool q_129)
                refine fill_nil S1 ?_; clear S1; intro a_ S1
                rw [show q_129 = false from hl7] at S1
                have S0 := S.defers; replace S := S1; clear S1
                refine wl_pure (l' := [(113, undef), (109, .bool false), (112, undef), (49, .bool (t_51.2 != 0)), (10, .int .i64 t_51.2), (9, .pointer (some (⟨b_58, 0, .none⟩ : Addr))), (1, v1)]) S tys tys_ok 1 (by kernel_rfl) ?_; clear S; intro a S
                refine wpList_nil ?_
                exact RPost.mk_ S rfl S0 ⟨fun k_ => absurd k_ hc7, fun _ => rfl⟩ (Below.refl _ _)
            refine RunAll.cons (eqv (.bool q_137)) [(eqv (.bool q_129), 109), (cndF q_129 true (eqv (.bool (decide (y_139 ≥ 128)))), 113)] rfl rfl ?_ ?_
            · intro W_ hW
              by_cases hc7 : q_129 = true
              · have hl7 : q_129 = true := hc7
                have S1 := S
                intro v_746 hF_745; obtain rfl : v_746 = .bool q_129 := hF_745
                replace S1 := S1.put (by decide : 109 < 152) (.bool q_129)
                intro v_747 hF_748
                replace hF_748 := cndF.pos hF_748 hc7
                revert hF_748
                revert v_747
                intro v_750 hF_749; obtain rfl : v_750 = .bool (decide (y_139 ≥ 128)) := hF_749
                replace S1 := S1.put (by decide : 113 < 152) (.bool (decide (y_139 ≥ 128)))
                refine fill_nil S1 ?_; clear S1; intro a_ S1
                rw [show q_129 = true from hl7] at S1
                have S0 := S.defers; replace S := S1; clear S1
                refine wl_pure (l' := [(114, .bool (decide (y_139 ≥ 128))), (113, .bool (decide (y_139 ≥ 128))), (109, .bool true), (49, .bool (t_51.2 != 0)), (10, .int .i64 t_51.2), (9, .pointer (some (⟨b_58, 0, .none⟩ : Addr))), (1, v1)]) S tys tys_ok 1 (by kernel_rfl) ?_; clear S; intro a S
                refine wpList_nil ?_
                exact RPost.mk_ S rfl S0 (congrArg Value.bool ((HG_138).1 hc7).2) (Below.refl _ _)
              · have hl7 : q_129 = false := Bool.eq_false_iff.2 hc7
                have S1 := S
                intro v_752 hF_751; obtain rfl : v_752 = .bool q_129 := hF_751
                replace S1 := S1.put (by decide : 109 < 152) (.bool q_129)
                intro v_753 hF_754
                obtain rfl := cndF.neg hF_754 hc7
                replace S1 := S1.put (by decide : 113 < 152) (undef)
                refine fill_nil S1 ?_; clear S1; intro a_ S1
                rw [show q_129 = false from hl7] at S1
                have S0 := S.defers; replace S := S1; clear S1
                refine wl_pure (l' := [(114, .bool false), (113, undef), (109, .bool false), (49, .bool (t_51.2 != 0)), (10, .int .i64 t_51.2), (9, .pointer (some (⟨b_58, 0, .none⟩ : Addr))), (1, v1)]) S tys tys_ok 1 (by kernel_rfl) ?_; clear S; intro a S
                refine wpList_nil ?_
                exact RPost.mk_ S rfl S0 (congrArg Value.bool ((HG_138).2 hc7)) (Below.refl _ _)
            refine RunAll.cons (eqv (.bool q_137)) [(eqv (.bool q_137), 114)] rfl rfl ?_ ?_
            · intro W_ hW
              have S1 := S
              intro v_756 hF_755; obtain rfl : v_756 = .bool q_137 := hF_755
              replace S1 := S1.put (by decide : 114 < 152) (.bool q_137)
              refine fill_nil S1 ?_; clear S1; intro a_ S1
              have S0 := S.defers; replace S := S1; clear S1
              refine wl_pure (l' := [(115, .bool q_137), (114, .bool q_137), (49, .bool (t_51.2 != 0)), (10, .int .i64 t_51.2), (9, .pointer (some (⟨b_58, 0, .none⟩ : Addr))), (1, v1)]) S tys tys_ok 1 (by kernel_rfl) ?_; clear S; intro a S
              refine wpList_nil ?_
              exact RPost.mk_ S rfl S0 rfl (Below.refl _ _)
            refine RunAll.cons (cndF q_137 true (isRep (.sl (.int .u8)) (Kx K w.heap.size [some b_58, some b_39, some b_1]) x1)) [(eqv (.bool q_137), 115)] rfl rfl ?_ ?_
            · intro W_ hW
              by_cases hc8 : q_137 = true
              · have hl8 : q_137 = true := hc8
                have S1 := S
                intro v_758 hF_757; obtain rfl : v_758 = .bool q_137 := hF_757
                replace S1 := S1.put (by decide : 115 < 152) (.bool q_137)
                refine fill_nil S1 ?_; clear S1; intro a_ S1
                replace R1 := R1.step hW
                rw [show q_137 = true from hl8] at S1
                have S0 := S.defers; replace S := S1; clear S1
                refine wl_pure (l' := [(116, v1), (115, .bool true), (49, .bool (t_51.2 != 0)), (10, .int .i64 t_51.2), (9, .pointer (some (⟨b_58, 0, .none⟩ : Addr))), (1, v1)]) S tys tys_ok 1 (by kernel_rfl) ?_; clear S; intro a S
                refine wpList_nil ?_
                exact RPost.mk_ S rfl S0 ⟨fun _ => R1, fun k_ => absurd hc8 k_⟩ (Below.refl _ _)
              · have hl8 : q_137 = false := Bool.eq_false_iff.2 hc8
                have S1 := S
                intro v_760 hF_759; obtain rfl : v_760 = .bool q_137 := hF_759
                replace S1 := S1.put (by decide : 115 < 152) (.bool q_137)
                refine fill_nil S1 ?_; clear S1; intro a_ S1
                rw [show q_137 = false from hl8] at S1
                have S0 := S.defers; replace S := S1; clear S1
                refine wl_pure (l' := [(116, undef), (115, .bool false), (49, .bool (t_51.2 != 0)), (10, .int .i64 t_51.2), (9, .pointer (some (⟨b_58, 0, .none⟩ : Addr))), (1, v1)]) S tys tys_ok 1 (by kernel_rfl) ?_; clear S; intro a S
                refine wpList_nil ?_
                exact RPost.mk_ S rfl S0 ⟨fun k_ => absurd k_ hc8, fun _ => rfl⟩ (Below.refl _ _)
            refine RunAll.cons (cndF q_137 true (isEl (.int .u8) (Kx K w.heap.size [some b_58, some b_39, some b_1]) y_147)) [(cndF q_137 true (isRep (.sl (.int .u8)) (Kx K w.heap.size [some b_58, some b_39, some b_1]) x1), 116), (eqv (.bool q_137), 115)] rfl rfl ?_ ?_
            · intro W_ hW
              by_cases hc8 : q_137 = true
              · have hl8 : q_137 = true := hc8
                have S1 := S
                intro v_761 hF_762
                replace hF_762 := cndF.pos hF_762 hc8
                revert hF_762
                revert v_761
                intro v_764 hF_763; replace hF_763 : RepV _ _ _ _ _ := hF_763
                replace S1 := S1.put (by decide : 116 < 152) (v_764)
                intro v_766 hF_765; obtain rfl : v_766 = .bool q_137 := hF_765
                replace S1 := S1.put (by decide : 115 < 152) (.bool q_137)
                refine fill_nil S1 ?_; clear S1; intro a_ S1
                rw [show q_137 = true from hl8] at S1
                have S0 := S.defers; replace S := S1; clear S1
                obtain ⟨ey_147, ex_153, _⟩ := (HG_146).1 hc8
                refine w_go S rfl (op_indexAddr S rfl ty23 rfl rfl rfl hF_763 rfl ey_147 ?_)
                clear S; intro a p_767 R_768 H_769 S
                refine wpList_nil ?_
                exact RPost.mk_ S rfl S0 ⟨fun _ => ⟨_, rfl, R_768, H_769⟩, fun k_ => absurd hc8 k_⟩ (Below.refl _ _)
              · have hl8 : q_137 = false := Bool.eq_false_iff.2 hc8
                have S1 := S
                intro v_770 hF_771
                obtain rfl := cndF.neg hF_771 hc8
                replace S1 := S1.put (by decide : 116 < 152) (undef)
                intro v_773 hF_772; obtain rfl : v_773 = .bool q_137 := hF_772
                replace S1 := S1.put (by decide : 115 < 152) (.bool q_137)
                refine fill_nil S1 ?_; clear S1; intro a_ S1
                rw [show q_137 = false from hl8] at S1
                have S0 := S.defers; replace S := S1; clear S1
                refine wl_pure (l' := [(117, undef), (115, .bool false), (116, undef), (49, .bool (t_51.2 != 0)), (10, .int .i64 t_51.2), (9, .pointer (some (⟨b_58, 0, .none⟩ : Addr))), (1, v1)]) S tys tys_ok 1 (by kernel_rfl) ?_; clear S; intro a S
                refine wpList_nil ?_
                exact RPost.mk_ S rfl S0 ⟨fun k_ => absurd k_ hc8, fun _ => rfl⟩ (Below.refl _ _)
            refine RunAll.cons (cndF q_137 true (isI .u8 y_147)) [(cndF q_137 true (isEl (.int .u8) (Kx K w.heap.size [some b_58, some b_39, some b_1]) y_147), 117), (eqv (.bool q_137), 115)] rfl rfl ?_ ?_
            · intro W_ hW
              by_cases hc8 : q_137 = true
              · have hl8 : q_137 = true := hc8
                have S1 := S
                intro v_774 hF_775
                replace hF_775 := cndF.pos hF_775 hc8
                revert hF_775
                revert v_774
                rintro _ ⟨p_778, rfl, R_779, H_780⟩
                replace S1 := S1.put (by decide : 117 < 152) (.pointer (some p_778))
                intro v_782 hF_781; obtain rfl : v_782 = .bool q_137 := hF_781
                replace S1 := S1.put (by decide : 115 < 152) (.bool q_137)
                refine fill_nil S1 ?_; clear S1; intro a_ S1
                rw [show q_137 = true from hl8] at S1
                have S0 := S.defers; replace S := S1; clear S1
                obtain ⟨ey_147, ex_153, _⟩ := (HG_146).1 hc8
                refine w_go S rfl (op_load (t := (.int .u8)) (x := y_147) S rfl ty5 rfl rfl rfl R_779 ?_)
                clear S; intro a v_783 R_784 S
                obtain ⟨rfl, GR_784⟩ := RepV.int R_784
                refine wpList_nil ?_
                exact RPost.mk_ S rfl S0 ⟨fun _ => ⟨rfl, GR_784⟩, fun k_ => absurd hc8 k_⟩ (Below.refl _ _)
              · have hl8 : q_137 = false := Bool.eq_false_iff.2 hc8
                have S1 := S
                intro v_785 hF_786
                obtain rfl := cndF.neg hF_786 hc8
                replace S1 := S1.put (by decide : 117 < 152) (undef)
                intro v_788 hF_787; obtain rfl : v_788 = .bool q_137 := hF_787
                replace S1 := S1.put (by decide : 115 < 152) (.bool q_137)
                refine fill_nil S1 ?_; clear S1; intro a_ S1
                rw [show q_137 = false from hl8] at S1
                have S0 := S.defers; replace S := S1; clear S1
                refine wl_pure (l' := [(118, undef), (115, .bool false), (117, undef), (49, .bool (t_51.2 != 0)), (10, .int .i64 t_51.2), (9, .pointer (some (⟨b_58, 0, .none⟩ : Addr))), (1, v1)]) S tys tys_ok 1 (by kernel_rfl) ?_; clear S; intro a S
                refine wpList_nil ?_
                exact RPost.mk_ S rfl S0 ⟨fun k_ => absurd k_ hc8, fun _ => rfl⟩ (Below.refl _ _)
            refine RunAll.cons (cndF q_137 true (isI .u8 x_153)) [(cndF q_137 true (isI .u8 y_147), 118), (eqv (.bool q_137), 115)] rfl rfl ?_ ?_
            · intro W_ hW
              by_cases hc8 : q_137 = true
              · have hl8 : q_137 = true := hc8
                have S1 := S
                intro v_789 hF_790
                replace hF_790 := cndF.pos hF_790 hc8
                revert hF_790
                revert v_789
                rintro _ ⟨rfl, hF_791⟩
                replace S1 := S1.put (by decide : 118 < 152) (.int .u8 y_147)
                intro v_794 hF_793; obtain rfl : v_794 = .bool q_137 := hF_793
                replace S1 := S1.put (by decide : 115 < 152) (.bool q_137)
                refine fill_nil S1 ?_; clear S1; intro a_ S1
                rw [show q_137 = true from hl8] at S1
                have S0 := S.defers; replace S := S1; clear S1
                obtain ⟨ey_147, ex_153, _⟩ := (HG_146).1 hc8
                refine w_go S rfl (op_rem S .u8 rfl rfl rfl rfl rfl ex_153 ?_)
                clear S; intro a S
                refine wpList_nil ?_
                exact RPost.mk_ S rfl S0 ⟨fun _ => ⟨rfl, (inR_rem ex_153)⟩, fun k_ => absurd hc8 k_⟩ (Below.refl _ _)
              · have hl8 : q_137 = false := Bool.eq_false_iff.2 hc8
                have S1 := S
                intro v_795 hF_796
                obtain rfl := cndF.neg hF_796 hc8
                replace S1 := S1.put (by decide : 118 < 152) (undef)
                intro v_798 hF_797; obtain rfl : v_798 = .bool q_137 := hF_797
                replace S1 := S1.put (by decide : 115 < 152) (.bool q_137)
                refine fill_nil S1 ?_; clear S1; intro a_ S1
                rw [show q_137 = false from hl8] at S1
                have S0 := S.defers; replace S := S1; clear S1
                refine wl_pure (l' := [(119, undef), (115, .bool false), (118, undef), (49, .bool (t_51.2 != 0)), (10, .int .i64 t_51.2), (9, .pointer (some (⟨b_58, 0, .none⟩ : Addr))), (1, v1)]) S tys tys_ok 1 (by kernel_rfl) ?_; clear S; intro a S
                refine wpList_nil ?_
                exact RPost.mk_ S rfl S0 ⟨fun k_ => absurd k_ hc8, fun _ => rfl⟩ (Below.refl _ _)
            refine RunAll.cons (cndF q_137 true (eqv (.bool (x_153 == 0)))) [(cndF q_137 true (isI .u8 x_153), 119), (eqv (.bool q_137), 115)] rfl rfl ?_ ?_
            · intro W_ hW
              by_cases hc8 : q_137 = true
              · have hl8 : q_137 = true := hc8
                have S1 := S
                intro v_799 hF_800
                replace hF_800 := cndF.pos hF_800 hc8
                revert hF_800
                revert v_799
                rintro _ ⟨rfl, hF_801⟩
                replace S1 := S1.put (by decide : 119 < 152) (.int .u8 x_153)
                intro v_804 hF_803; obtain rfl : v_804 = .bool q_137 := hF_803
                replace S1 := S1.put (by decide : 115 < 152) (.bool q_137)
                refine fill_nil S1 ?_; clear S1; intro a_ S1
                rw [show q_137 = true from hl8] at S1
                have S0 := S.defers; replace S := S1; clear S1
                refine wl_pure (l' := [(120, .bool (x_153 == 0)), (115, .bool true), (119, .int .u8 x_153), (49, .bool (t_51.2 != 0)), (10, .int .i64 t_51.2), (9, .pointer (some (⟨b_58, 0, .none⟩ : Addr))), (1, v1)]) S tys tys_ok 1 (by kernel_rfl) ?_; clear S; intro a S
                refine wpList_nil ?_
                exact RPost.mk_ S rfl S0 ⟨fun _ => rfl, fun k_ => absurd hc8 k_⟩ (Below.refl _ _)
              · have hl8 : q_137 = false := Bool.eq_false_iff.2 hc8
                have S1 := S
                intro v_805 hF_806
                obtain rfl := cndF.neg hF_806 hc8
                replace S1 := S1.put (by decide : 119 < 152) (undef)
                intro v_808 hF_807; obtain rfl : v_808 = .bool q_137 := hF_807
                replace S1 := S1.put (by decide : 115 < 152) (.bool q_137)
                refine fill_nil S1 ?_; clear S1; intro a_ S1
                rw [show q_137 = false from hl8] at S1
                have S0 := S.defers; replace S := S1; clear S1
                refine wl_pure (l' := [(120, undef), (115, .bool false), (119, undef), (49, .bool (t_51.2 != 0)), (10, .int .i64 t_51.2), (9, .pointer (some (⟨b_58, 0, .none⟩ : Addr))), (1, v1)]) S tys tys_ok 1 (by kernel_rfl) ?_; clear S; intro a S
                refine wpList_nil ?_
                exact RPost.mk_ S rfl S0 ⟨fun k_ => absurd k_ hc8, fun _ => rfl⟩ (Below.refl _ _)
            refine RunAll.cons (eqv (.bool q_145)) [(eqv (.bool q_137), 115), (cndF q_137 true (eqv (.bool (x_153 == 0))), 120)] rfl rfl ?_ ?_
            · intro W_ hW
              by_cases hc8 : q_137 = true
              · have hl8 : q_137 = true := hc8
                have S1 := S
                intro v_810 hF_809; obtain rfl : v_810 = .bool q_137 := hF_809
                replace S1 := S1.put (by decide : 115 < 152) (.bool q_137)
                intro v_811 hF_812
                replace hF_812 := cndF.pos hF_812 hc8
                revert hF_812
                revert v_811
                intro v_814 hF_813; obtain rfl : v_814 = .bool (x_153 == 0) := hF_813
                replace S1 := S1.put (by decide : 120 < 152) (.bool (x_153 == 0))
                refine fill_nil S1 ?_; clear S1; intro a_ S1
                rw [show q_137 = true from hl8] at S1
                have S0 := S.defers; replace S := S1; clear S1
                refine wl_pure (l' := [(121, .bool (x_153 == 0)), (120, .bool (x_153 == 0)), (115, .bool true), (49, .bool (t_51.2 != 0)), (10, .int .i64 t_51.2), (9, .pointer (some (⟨b_58, 0, .none⟩ : Addr))), (1, v1)]) S tys tys_ok 1 (by kernel_rfl) ?_; clear S; intro a S
                refine wpList_nil ?_
                exact RPost.mk_ S rfl S0 (congrArg Value.bool ((HG_146).1 hc8).2.2) (Below.refl _ _)
              · have hl8 : q_137 = false := Bool.eq_false_iff.2 hc8
                have S1 := S
                intro v_816 hF_815; obtain rfl : v_816 = .bool q_137 := hF_815
                replace S1 := S1.put (by decide : 115 < 152) (.bool q_137)
                intro v_817 hF_818
                obtain rfl := cndF.neg hF_818 hc8
                replace S1 := S1.put (by decide : 120 < 152) (undef)
                refine fill_nil S1 ?_; clear S1; intro a_ S1
                rw [show q_137 = false from hl8] at S1
                have S0 := S.defers; replace S := S1; clear S1
                refine wl_pure (l' := [(121, .bool false), (120, undef), (115, .bool false), (49, .bool (t_51.2 != 0)), (10, .int .i64 t_51.2), (9, .pointer (some (⟨b_58, 0, .none⟩ : Addr))), (1, v1)]) S tys tys_ok 1 (by kernel_rfl) ?_; clear S; intro a S
                refine wpList_nil ?_
                exact RPost.mk_ S rfl S0 (congrArg Value.bool ((HG_146).2 hc8)) (Below.refl _ _)
            refine RunAll.cons (eqv (.bool q_145)) [(eqv (.bool q_145), 121)] rfl rfl ?_ ?_
            · intro W_ hW
              have S1 := S
              intro v_820 hF_819; obtain rfl : v_820 = .bool q_145 := hF_819
              replace S1 := S1.put (by decide : 121 < 152) (.bool q_145)
              refine fill_nil S1 ?_; clear S1; intro a_ S1
              have S0 := S.defers; replace S := S1; clear S1
              refine wl_pure (l' := [(122, .bool q_145), (121, .bool q_145), (49, .bool (t_51.2 != 0)), (10, .int .i64 t_51.2), (9, .pointer (some (⟨b_58, 0, .none⟩ : Addr))), (1, v1)]) S tys tys_ok 1 (by kernel_rfl) ?_; clear S; intro a S
              refine wpList_nil ?_
              exact RPost.mk_ S rfl S0 rfl (Below.refl _ _)
            refine RunAll.cons (cndF q_145 true (isRep (.sl (.int .u8)) (Kx K w.heap.size [some b_58, some b_39, some b_1]) x1)) [(eqv (.bool q_145), 122)] rfl rfl ?_ ?_
            · intro W_ hW
              by_cases hc9 : q_145 = true
              · have hl9 : q_145 = true := hc9
                have S1 := S
                intro v_822 hF_821; obtain rfl : v_822 = .bool q_145 := hF_821
                replace S1 := S1.put (by decide : 122 < 152) (.bool q_145)
                refine fill_nil S1 ?_; clear S1; intro a_ S1
                replace R1 := R1.step hW
                rw [show q_145 = true from hl9] at S1
                have S0 := S.defers; replace S := S1; clear S1
                refine wl_pure (l' := [(123, v1), (122, .bool true), (49, .bool (t_51.2 != 0)), (10, .int .i64 t_51.2), (9, .pointer (some (⟨b_58, 0, .none⟩ : Addr))), (1, v1)]) S tys tys_ok 1 (by kernel_rfl) ?_; clear S; intro a S
                refine wpList_nil ?_
                exact RPost.mk_ S rfl S0 ⟨fun _ => R1, fun k_ => absurd hc9 k_⟩ (Below.refl _ _)
              · have hl9 : q_145 = false := Bool.eq_false_iff.2 hc9
                have S1 := S
                intro v_824 hF_823; obtain rfl : v_824 = .bool q_145 := hF_823
                replace S1 := S1.put (by decide : 122 < 152) (.bool q_145)
                refine fill_nil S1 ?_; clear S1; intro a_ S1
                rw [show q_145 = false from hl9] at S1
                have S0 := S.defers; replace S := S1; clear S1
                refine wl_pure (l' := [(123, undef), (122, .bool false), (49, .bool (t_51.2 != 0)), (10, .int .i64 t_51.2), (9, .pointer (some (⟨b_58, 0, .none⟩ : Addr))), (1, v1)]) S tys tys_ok 1 (by kernel_rfl) ?_; clear S; intro a S
                refine wpList_nil ?_
                exact RPost.mk_ S rfl S0 ⟨fun k_ => absurd k_ hc9, fun _ => rfl⟩ (Below.refl _ _)
            refine RunAll.cons (cndF q_145 true (isEl (.int .u8) (Kx K w.heap.size [some b_58, some b_39, some b_1]) y_156)) [(cndF q_145 true (isRep (.sl (.int .u8)) (Kx K w.heap.size [some b_58, some b_39, some b_1]) x1), 123), (eqv (.bool q_145), 122)] rfl rfl ?_ ?_
            · intro W_ hW
              by_cases hc9 : q_145 = true
              · have hl9 : q_145 = true := hc9
                have S1 := S
                intro v_825 hF_826
                replace hF_826 := cndF.pos hF_826 hc9
                revert hF_826
                revert v_825
                intro v_828 hF_827; replace hF_827 : RepV _ _ _ _ _ := hF_827
                replace S1 := S1.put (by decide : 123 < 152) (v_828)
                intro v_830 hF_829; obtain rfl : v_830 = .bool q_145 := hF_829
                replace S1 := S1.put (by decide : 122 < 152) (.bool q_145)
                refine fill_nil S1 ?_; clear S1; intro a_ S1
                rw [show q_145 = true from hl9] at S1
                have S0 := S.defers; replace S := S1; clear S1
                obtain ⟨ey_156, _⟩ := (HG_155).1 hc9
                refine w_go S rfl (op_indexAddr S rfl ty23 rfl rfl rfl hF_827 rfl ey_156 ?_)
                clear S; intro a p_831 R_832 H_833 S
                refine wpList_nil ?_
                exact RPost.mk_ S rfl S0 ⟨fun _ => ⟨_, rfl, R_832, H_833⟩, fun k_ => absurd hc9 k_⟩ (Below.refl _ _)
              · have hl9 : q_145 = false := Bool.eq_false_iff.2 hc9
                have S1 := S
                intro v_834 hF_835
                obtain rfl := cndF.neg hF_835 hc9
                replace S1 := S1.put (by decide : 123 < 152) (undef)
                intro v_837 hF_836; obtain rfl : v_837 = .bool q_145 := hF_836
                replace S1 := S1.put (by decide : 122 < 152) (.bool q_145)
                refine fill_nil S1 ?_; clear S1; intro a_ S1
                rw [show q_145 = false from hl9] at S1
                have S0 := S.defers; replace S := S1; clear S1
                refine wl_pure (l' := [(124, undef), (122, .bool false), (123, undef), (49, .bool (t_51.2 != 0)), (10, .int .i64 t_51.2), (9, .pointer (some (⟨b_58, 0, .none⟩ : Addr))), (1, v1)]) S tys tys_ok 1 (by kernel_rfl) ?_; clear S; intro a S
                refine wpList_nil ?_
                exact RPost.mk_ S rfl S0 ⟨fun k_ => absurd k_ hc9, fun _ => rfl⟩ (Below.refl _ _)
            refine RunAll.cons (cndF q_145 true (isI .u8 y_156)) [(cndF q_145 true (isEl (.int .u8) (Kx K w.heap.size [some b_58, some b_39, some b_1]) y_156), 124), (eqv (.bool q_145), 122)] rfl rfl ?_ ?_
            · intro W_ hW
              by_cases hc9 : q_145 = true
              · have hl9 : q_145 = true := hc9
                have S1 := S
                intro v_838 hF_839
                replace hF_839 := cndF.pos hF_839 hc9
                revert hF_839
                revert v_838
                rintro _ ⟨p_842, rfl, R_843, H_844⟩
                replace S1 := S1.put (by decide : 124 < 152) (.pointer (some p_842))
                intro v_846 hF_845; obtain rfl : v_846 = .bool q_145 := hF_845
                replace S1 := S1.put (by decide : 122 < 152) (.bool q_145)
                refine fill_nil S1 ?_; clear S1; intro a_ S1
                rw [show q_145 = true from hl9] at S1
                have S0 := S.defers; replace S := S1; clear S1
                obtain ⟨ey_156, _⟩ := (HG_155).1 hc9
                refine w_go S rfl (op_load (t := (.int .u8)) (x := y_156) S rfl ty5 rfl rfl rfl R_843 ?_)
                clear S; intro a v_847 R_848 S
                obtain ⟨rfl, GR_848⟩ := RepV.int R_848
                refine wpList_nil ?_
                exact RPost.mk_ S rfl S0 ⟨fun _ => ⟨rfl, GR_848⟩, fun k_ => absurd hc9 k_⟩ (Below.refl _ _)
              · have hl9 : q_145 = false := Bool.eq_false_iff.2 hc9
                have S1 := S
                intro v_849 hF_850
                obtain rfl := cndF.neg hF_850 hc9
                replace S1 := S1.put (by decide : 124 < 152) (undef)
                intro v_852 hF_851; obtain rfl : v_852 = .bool q_145 := hF_851
                replace S1 := S1.put (by decide : 122 < 152) (.bool q_145)
                refine fill_nil S1 ?_; clear S1; intro a_ S1
                rw [show q_145 = false from hl9] at S1
                have S0 := S.defers; replace S := S1; clear S1
                refine wl_pure (l' := [(125, undef), (122, .bool false), (124, undef), (49, .bool (t_51.2 != 0)), (10, .int .i64 t_51.2), (9, .pointer (some (⟨b_58, 0, .none⟩ : Addr))), (1, v1)]) S tys tys_ok 1 (by kernel_rfl) ?_; clear S; intro a S
                refine wpList_nil ?_
                exact RPost.mk_ S rfl S0 ⟨fun k_ => absurd k_ hc9, fun _ => rfl⟩ (Below.refl _ _)
            refine RunAll.cons (cndF q_145 true (eqv (.bool (decide (y_156 < 251))))) [(cndF q_145 true (isI .u8 y_156), 125), (eqv (.bool q_145), 122)] rfl rfl ?_ ?_
            · intro W_ hW
              by_cases hc9 : q_145 = true
              · have hl9 : q_145 = true := hc9
                have S1 := S
                intro v_853 hF_854
                replace hF_854 := cndF.pos hF_854 hc9
                revert hF_854
                revert v_853
                rintro _ ⟨rfl, hF_855⟩
                replace S1 := S1.put (by decide : 125 < 152) (.int .u8 y_156)
                intro v_858 hF_857; obtain rfl : v_858 = .bool q_145 := hF_857
                replace S1 := S1.put (by decide : 122 < 152) (.bool q_145)
                refine fill_nil S1 ?_; clear S1; intro a_ S1
                rw [show q_145 = true from hl9] at S1
                have S0 := S.defers; replace S := S1; clear S1
                refine wl_pure (l' := [(126, .bool (decide (y_156 < 251))), (122, .bool true), (125, .int .u8 y_156), (49, .bool (t_51.2 != 0)), (10, .int .i64 t_51.2), (9, .pointer (some (⟨b_58, 0, .none⟩ : Addr))), (1, v1)]) S tys tys_ok 1 (by kernel_rfl) ?_; clear S; intro a S
                refine wpList_nil ?_
                exact RPost.mk_ S rfl S0 ⟨fun _ => rfl, fun k_ => absurd hc9 k_⟩ (Below.refl _ _)
              · have hl9 : q_145 = false := Bool.eq_false_iff.2 hc9
                have S1 := S
                intro v_859 hF_860
                obtain rfl := cndF.neg hF_860 hc9
                replace S1 := S1.put (by decide : 125 < 152) (undef)
                intro v_862 hF_861; obtain rfl : v_862 = .bool q_145 := hF_861
                replace S1 := S1.put (by decide : 122 < 152) (.bool q_145)
                refine fill_nil S1 ?_; clear S1; intro a_ S1
                rw [show q_145 = false from hl9] at S1
                have S0 := S.defers; replace S := S1; clear S1
                refine wl_pure (l' := [(126, undef), (122, .bool false), (125, undef), (49, .bool (t_51.2 != 0)), (10, .int .i64 t_51.2), (9, .pointer (some (⟨b_58, 0, .none⟩ : Addr))), (1, v1)]) S tys tys_ok 1 (by kernel_rfl) ?_; clear S; intro a S
                refine wpList_nil ?_
                exact RPost.mk_ S rfl S0 ⟨fun k_ => absurd k_ hc9, fun _ => rfl⟩ (Below.refl _ _)
            refine RunAll.cons (eqv (.bool q_154)) [(eqv (.bool q_145), 122), (cndF q_145 true (eqv (.bool (decide (y_156 < 251)))), 126)] rfl rfl ?_ ?_
            · intro W_ hW
              by_cases hc9 : q_145 = true
              · have hl9 : q_145 = true := hc9
                have S1 := S
                intro v_864 hF_863; obtain rfl : v_864 = .bool q_145 := hF_863
                replace S1 := S1.put (by decide : 122 < 152) (.bool q_145)
                intro v_865 hF_866
                replace hF_866 := cndF.pos hF_866 hc9
                revert hF_866
                revert v_865
                intro v_868 hF_867; obtain rfl : v_868 = .bool (decide (y_156 < 251)) := hF_867
                replace S1 := S1.put (by decide : 126 < 152) (.bool (decide (y_156 < 251)))
                refine fill_nil S1 ?_; clear S1; intro a_ S1
                rw [show q_145 = true from hl9] at S1
                have S0 := S.defers; replace S := S1; clear S1
                refine wl_pure (l' := [(127, .bool (decide (y_156 < 251))), (126, .bool (decide (y_156 < 251))), (122, .bool true), (49, .bool (t_51.2 != 0)), (10, .int .i64 t_51.2), (9, .pointer (some (⟨b_58, 0, .none⟩ : Addr))), (1, v1)]) S tys tys_ok 1 (by kernel_rfl) ?_; clear S; intro a S
                refine wpList_nil ?_
                exact RPost.mk_ S rfl S0 (congrArg Value.bool ((HG_155).1 hc9).2) (Below.refl _ _)
              · have hl9 : q_145 = false := Bool.eq_false_iff.2 hc9
                have S1 := S
                intro v_870 hF_869; obtain rfl : v_870 = .bool q_145 := hF_869
                replace S1 := S1.put (by decide : 122 < 152) (.bool q_145)
                intro v_871 hF_872
                obtain rfl := cndF.neg hF_872 hc9
                replace S1 := S1.put (by decide : 126 < 152) (undef)
                refine fill_nil S1 ?_; clear S1; intro a_ S1
                rw [show q_145 = false from hl9] at S1
                have S0 := S.defers; replace S := S1; clear S1
                refine wl_pure (l' := [(127, .bool false), (126, undef), (122, .bool false), (49, .bool (t_51.2 != 0)), (10, .int .i64 t_51.2), (9, .pointer (some (⟨b_58, 0, .none⟩ : Addr))), (1, v1)]) S tys tys_ok 1 (by kernel_rfl) ?_; clear S; intro a S
                refine wpList_nil ?_
                exact RPost.mk_ S rfl S0 (congrArg Value.bool ((HG_155).2 hc9)) (Below.refl _ _)
            refine RunAll.cons (eqv (.bool q_154)) [(eqv (.bool q_154), 127)] rfl rfl ?_ ?_
            · intro W_ hW
              have S1 := S
              intro v_874 hF_873; obtain rfl : v_874 = .bool q_154 := hF_873
              replace S1 := S1.put (by decide : 127 < 152) (.bool q_154)
              refine fill_nil S1 ?_; clear S1; intro a_ S1
              have S0 := S.defers; replace S := S1; clear S1
              refine wl_pure (l' := [(11, .bool q_154), (127, .bool q_154), (49, .bool (t_51.2 != 0)), (10, .int .i64 t_51.2), (9, .pointer (some (⟨b_58, 0, .none⟩ : Addr))), (1, v1)]) S tys tys_ok 1 (by kernel_rfl) ?_; clear S; intro a S
              refine wpList_nil ?_
              exact RPost.mk_ S rfl S0 rfl (Below.refl _ _)
            exact trivial
          intro w_875 hb_876
          refine EndE.some_ rfl ?_
          intro v_878 hF_877; replace hF_877 : RepV _ _ _ _ _ := hF_877
          replace S := S.put (by decide : 50 < 152) (v_878)
          refine EndE.some_ rfl ?_
          rintro _ ⟨rfl, hF_879⟩
          replace S := S.put (by decide : 51 < 152) (.int .i64 (lenI x1))
          refine EndE.some_ rfl ?_
          intro v_882 hF_881; obtain rfl : v_882 = .bool ((lenI x1) == 9) := hF_881
          replace S := S.put (by decide : 52 < 152) (.bool ((lenI x1) == 9))
          refine EndE.some_ rfl ?_
          intro v_884 hF_883; obtain rfl : v_884 = .bool ((lenI x1) == 9) := hF_883
          replace S := S.put (by decide : 53 < 152) (.bool ((lenI x1) == 9))
          refine EndE.some_ rfl ?_
          intro v_885 _
          replace S := S.put (by decide : 54 < 152) (v_885)
          refine EndE.some_ rfl ?_
          intro v_886 _
          replace S := S.put (by decide : 55 < 152) (v_886)
          refine EndE.some_ rfl ?_
          intro v_887 _
          replace S := S.put (by decide : 56 < 152) (v_887)
          refine EndE.some_ rfl ?_
          intro v_888 _
          replace S := S.put (by decide : 57 < 152) (v_888)
          refine EndE.some_ rfl ?_
          intro v_890 hF_889; obtain rfl : v_890 = .bool q_65 := hF_889
          replace S := S.put (by decide : 58 < 152) (.bool q_65)
          refine EndE.some_ rfl ?_
          intro v_892 hF_891; obtain rfl : v_892 = .bool q_65 := hF_891
          replace S := S.put (by decide : 59 < 152) (.bool q_65)
          refine EndE.some_ rfl ?_
          intro v_893 _
          replace S := S.put (by decide : 60 < 152) (v_893)
          refine EndE.some_ rfl ?_
          intro v_894 _
          replace S := S.put (by decide : 61 < 152) (v_894)
          refine EndE.some_ rfl ?_
          intro v_895 _
          replace S := S.put (by decide : 62 < 152) (v_895)
          refine EndE.some_ rfl ?_
          intro v_896 _
          replace S := S.put (by decide : 63 < 152) (v_896)
          refine EndE.some_ rfl ?_
          intro v_898 hF_897; obtain rfl : v_898 = .bool q_73 := hF_897
          replace S := S.put (by decide : 64 < 152) (.bool q_73)
          refine EndE.some_ rfl ?_
          intro v_900 hF_899; obtain rfl : v_900 = .bool q_73 := hF_899
          replace S := S.put (by decide : 65 < 152) (.bool q_73)
          refine EndE.some_ rfl ?_
          intro v_901 _
          replace S := S.put (by decide : 66 < 152) (v_901)
          refine EndE.some_ rfl ?_
          intro v_902 _
          replace S := S.put (by decide : 67 < 152) (v_902)
          refine EndE.some_ rfl ?_
          intro v_903 _
          replace S := S.put (by decide : 68 < 152) (v_903)
          refine EndE.some_ rfl ?_
          intro v_904 _
          replace S := S.put (by decide : 69 < 152) (v_904)
          refine EndE.some_ rfl ?_
          intro v_905 _
          replace S := S.put (by decide : 70 < 152) (v_905)
          refine EndE.some_ rfl ?_
          intro v_906 _
          replace S := S.put (by decide : 71 < 152) (v_906)
          refine EndE.some_ rfl ?_
          intro v_907 _
          replace S := S.put (by decide : 72 < 152) (v_907)
          refine EndE.some_ rfl ?_
          intro v_908 _
          replace S := S.put (by decide : 73 < 152) (v_908)
          refine EndE.some_ rfl ?_
          intro v_909 _
          replace S := S.put (by decide : 74 < 152) (v_909)
          refine EndE.some_ rfl ?_
          intro v_910 _
          replace S := S.put (by decide : 75 < 152) (v_910)
          refine EndE.some_ rfl ?_
          intro v_911 _
          replace S := S.put (by decide : 76 < 152) (v_911)
          refine EndE.some_ rfl ?_
          intro v_913 hF_912; obtain rfl : v_913 = .bool q_81 := hF_912
          replace S := S.put (by decide : 77 < 152) (.bool q_81)
          refine EndE.some_ rfl ?_
          intro v_915 hF_914; obtain rfl : v_915 = .bool q_81 := hF_914
          replace S := S.put (by decide : 78 < 152) (.bool q_81)
          refine EndE.some_ rfl ?_
          intro v_916 _
          replace S := S.put (by decide : 79 < 152) (v_916)
          refine EndE.some_ rfl ?_
          intro v_917 _
          replace S := S.put (by decide : 80 < 152) (v_917)
          refine EndE.some_ rfl ?_
          intro v_918 _
          replace S := S.put (by decide : 81 < 152) (v_918)
          refine EndE.some_ rfl ?_
          intro v_919 _
          replace S := S.put (by decide : 82 < 152) (v_919)
          refine EndE.some_ rfl ?_
          intro v_920 _
          replace S := S.put (by decide : 83 < 152) (v_920)
          refine EndE.some_ rfl ?_
          intro v_921 _
          replace S := S.put (by decide : 84 < 152) (v_921)
          refine EndE.some_ rfl ?_
          intro v_922 _
          replace S := S.put (by decide : 85 < 152) (v_922)
          refine EndE.some_ rfl ?_
          intro v_923 _
          replace S := S.put (by decide : 86 < 152) (v_923)
          refine EndE.some_ rfl ?_
          intro v_924 _
          replace S := S.put (by decide : 87 < 152) (v_924)
          refine EndE.some_ rfl ?_
          intro v_925 _
          replace S := S.put (by decide : 88 < 152) (v_925)
          refine EndE.some_ rfl ?_
          intro v_926 _
          replace S := S.put (by decide : 89 < 152) (v_926)
          refine EndE.some_ rfl ?_
          intro v_928 hF_927; obtain rfl : v_928 = .bool q_97 := hF_927
          replace S := S.put (by decide : 90 < 152) (.bool q_97)
          refine EndE.some_ rfl ?_
          intro v_930 hF_929; obtain rfl : v_930 = .bool q_97 := hF_929
          replace S := S.put (by decide : 91 < 152) (.bool q_97)
          refine EndE.some_ rfl ?_
          intro v_931 _
          replace S := S.put (by decide : 92 < 152) (v_931)
          refine EndE.some_ rfl ?_
          intro v_932 _
          replace S := S.put (by decide : 93 < 152) (v_932)
          refine EndE.some_ rfl ?_
          intro v_933 _
          replace S := S.put (by decide : 94 < 152) (v_933)
          refine EndE.some_ rfl ?_
          intro v_934 _
          replace S := S.put (by decide : 95 < 152) (v_934)
          refine EndE.some_ rfl ?_
          intro v_936 hF_935; obtain rfl : v_936 = .bool q_113 := hF_935
          replace S := S.put (by decide : 96 < 152) (.bool q_113)
          refine EndE.some_ rfl ?_
          intro v_938 hF_937; obtain rfl : v_938 = .bool q_113 := hF_937
          replace S := S.put (by decide : 97 < 152) (.bool q_113)
          refine EndE.some_ rfl ?_
          intro v_939 _
          replace S := S.put (by decide : 98 < 152) (v_939)
          refine EndE.some_ rfl ?_
          intro v_940 _
          replace S := S.put (by decide : 99 < 152) (v_940)
          refine EndE.some_ rfl ?_
          intro v_941 _
          replace S := S.put (by decide : 100 < 152) (v_941)
          refine EndE.some_ rfl ?_
          intro v_942 _
          replace S := S.put (by decide : 101 < 152) (v_942)
          refine EndE.some_ rfl ?_
          intro v_944 hF_943; obtain rfl : v_944 = .bool q_121 := hF_943
          replace S := S.put (by decide : 102 < 152) (.bool q_121)
          refine EndE.some_ rfl ?_
          intro v_946 hF_945; obtain rfl : v_946 = .bool q_121 := hF_945
          replace S := S.put (by decide : 103 < 152) (.bool q_121)
          refine EndE.some_ rfl ?_
          intro v_947 _
          replace S := S.put (by decide : 104 < 152) (v_947)
          refine EndE.some_ rfl ?_
          intro v_948 _
          replace S := S.put (by decide : 105 < 152) (v_948)
          refine EndE.some_ rfl ?_
          intro v_949 _
          replace S := S.put (by decide : 106 < 152) (v_949)
          refine EndE.some_ rfl ?_
          intro v_950 _
          replace S := S.put (by decide : 107 < 152) (v_950)
          refine EndE.some_ rfl ?_
          intro v_952 hF_951; obtain rfl : v_952 = .bool q_129 := hF_951
          replace S := S.put (by decide : 108 < 152) (.bool q_129)
          refine EndE.some_ rfl ?_
          intro v_954 hF_953; obtain rfl : v_954 = .bool q_129 := hF_953
          replace S := S.put (by decide : 109 < 152) (.bool q_129)
          refine EndE.some_ rfl ?_
          intro v_955 _
          replace S := S.put (by decide : 110 < 152) (v_955)
          refine EndE.some_ rfl ?_
          intro v_956 _
          replace S := S.put (by decide : 111 < 152) (v_956)
          refine EndE.some_ rfl ?_
          intro v_957 _
          replace S := S.put (by decide : 112 < 152) (v_957)
          refine EndE.some_ rfl ?_
          intro v_958 _
          replace S := S.put (by decide : 113 < 152) (v_958)
          refine EndE.some_ rfl ?_
          intro v_960 hF_959; obtain rfl : v_960 = .bool q_137 := hF_959
          replace S := S.put (by decide : 114 < 152) (.bool q_137)
          refine EndE.some_ rfl ?_
          intro v_962 hF_961; obtain rfl : v_962 = .bool q_137 := hF_961
          replace S := S.put (by decide : 115 < 152) (.bool q_137)
          refine EndE.some_ rfl ?_
          intro v_963 _
          replace S := S.put (by decide : 116 < 152) (v_963)
          refine EndE.some_ rfl ?_
          intro v_964 _
          replace S := S.put (by decide : 117 < 152) (v_964)
          refine EndE.some_ rfl ?_
          intro v_965 _
          replace S := S.put (by decide : 118 < 152) (v_965)
          refine EndE.some_ rfl ?_
          intro v_966 _
          replace S := S.put (by decide : 119 < 152) (v_966)
          refine EndE.some_ rfl ?_
          intro v_967 _
          replace S := S.put (by decide : 120 < 152) (v_967)
          refine EndE.some_ rfl ?_
          intro v_969 hF_968; obtain rfl : v_969 = .bool q_145 := hF_968
          replace S := S.put (by decide : 121 < 152) (.bool q_145)
          refine EndE.some_ rfl ?_
          intro v_971 hF_970; obtain rfl : v_971 = .bool q_145 := hF_970
          replace S := S.put (by decide : 122 < 152) (.bool q_145)
          refine EndE.some_ rfl ?_
          intro v_972 _
          replace S := S.put (by decide : 123 < 152) (v_972)
          refine EndE.some_ rfl ?_
          intro v_973 _
          replace S := S.put (by decide : 124 < 152) (v_973)
          refine EndE.some_ rfl ?_
          intro v_974 _
          replace S := S.put (by decide : 125 < 152) (v_974)
          refine EndE.some_ rfl ?_
          intro v_975 _
          replace S := S.put (by decide : 126 < 152) (v_975)
          refine EndE.some_ rfl ?_
          intro v_977 hF_976; obtain rfl : v_977 = .bool q_154 := hF_976
          replace S := S.put (by decide : 127 < 152) (.bool q_154)
          refine EndE.some_ rfl ?_
          intro v_979 hF_978; obtain rfl : v_979 = .bool q_154 := hF_978
          replace S := S.put (by decide : 11 < 152) (.bool q_154)
          refine endE_nil S ?_; clear S; intro a S
          replace R1 := R1.step hb_876
          replace B_2 := B_2.step hb_876
          replace B_40 := B_40.step hb_876
          replace B_59 := B_59.step hb_876
          replace W := W.step hb_876
          refine then_n ?_
          replace S := S.sub (l' := [(11, .bool q_154), (10, .int .i64 t_51.2), (9, .pointer (some (⟨b_58, 0, .none⟩ : Addr))), (1, v1)]) (by exact ⟨rfl, rfl, rfl, rfl, trivial⟩)
          refine wp_seq ?_
          refine wp_region_lit ?_
          refine wl_pure (l' := [(129, v1), (128, .int .i64 t_51.2), (11, .bool q_154), (10, .int .i64 t_51.2), (9, .pointer (some (⟨b_58, 0, .none⟩ : Addr))), (1, v1)]) S tys tys_ok 2 (by kernel_rfl) ?_
          clear S; intro a S
          refine w_go S rfl (op_len (K := _) S rfl ty23 rfl rfl rfl R1 ?_)
          clear S; intro a G_980 S
          obtain ⟨t_981, et_981, h⟩ := bindS h
          refine w_go S rfl (op_call (vs := [.int .i64 t_51.2, .int .i64 (lenI x1), .int .i64 9]) S rfl cb22 rfl rfl rfl (c22 (Kx K w.heap.size [some b_58, some b_39, some b_1]) n w_875 t_51.2 GR_55 (lenI x1) G_980 9 (by decide) et_981) ?_)
          rintro _ w_985 ⟨v_982, rfl, R_983, hb_984⟩; refine ⟨_, rfl, ?_⟩
          replace R_983 := RepV.back R_983 W
          clear S; intro a S
          replace R1 := R1.step hb_984
          replace B_2 := B_2.step hb_984
          replace B_40 := B_40.step hb_984
          replace B_59 := B_59.step hb_984
          replace W := W.step hb_984
          obtain rfl := RepV.bool R_983
          refine wl_pure (l' := [(132, .bool t_981), (131, .bool t_981), (130, .int .i64 (lenI x1)), (129, v1), (128, .int .i64 t_51.2), (11, .bool q_154), (10, .int .i64 t_51.2), (9, .pointer (some (⟨b_58, 0, .none⟩ : Addr))), (1, v1)]) S tys tys_ok 1 (by kernel_rfl) ?_
          clear S; intro a S
          obtain ⟨q_986, eq_986, h⟩ := bindS h
          refine seg 4 (fun a_ w_ => w_985 = w_ ∧ St 152 a_ [(136, .bool q_986), (11, .bool q_154)]) ?_ ?_
          · by_cases hc : t_981 = true
            · rw [if_pos hc] at eq_986; rw [hc] at S
              refine w_go S rfl (op_load (t := (.st (.pair (.int .u16) (.pair (.int .u8) (.pair (.int .u8) (.pair (.int .u8) (.pair .bool (.pair .bool (.int .u8))))))))) (x := t_51.1) S rfl ty51 rfl rfl rfl B_59.at_ ?_)
              clear S; intro a v_987 R_988 S
              refine w_go S rfl (op_build (K := (Kx K w.heap.size [some b_58, some b_39, some b_1])) (f := (.pair (.int .u16) (.pair (.int .u8) (.pair (.int .u8) (.pair (.int .u8) (.pair .bool (.pair .bool (.int .u8)))))))) (z0 := (0, 0, 0, 0, false, false, 0)) (x := (0, 0, 0, 0, false, false, 0)) (vs := []) S _ rfl ty51 z51 (fun w K => ⟨[.int .u16 0], [.int .u8 0, .int .u8 0, .int .u8 0, .bool false, .bool false, .int .u8 0], rfl, ⟨rfl, by decide⟩, ⟨[.int .u8 0], [.int .u8 0, .int .u8 0, .bool false, .bool false, .int .u8 0], rfl, ⟨rfl, by decide⟩, ⟨[.int .u8 0], [.int .u8 0, .bool false, .bool false, .int .u8 0], rfl, ⟨rfl, by decide⟩, ⟨[.int .u8 0], [.bool false, .bool false, .int .u8 0], rfl, ⟨rfl, by decide⟩, ⟨[.bool false], [.bool false, .int .u8 0], rfl, rfl, ⟨[.bool false], [.int .u8 0], rfl, rfl, ⟨rfl, by decide⟩⟩⟩⟩⟩⟩⟩) rfl rfl rfl [] rfl rfl ?_)
              clear S; intro a v_989 R_990 S
              refine w_go S rfl (op_steql (t := (.pair (.int .u16) (.pair (.int .u8) (.pair (.int .u8) (.pair (.int .u8) (.pair .bool (.pair .bool (.int .u8)))))))) (m := t_51.1) (n := (0, 0, 0, 0, false, false, 0)) S rfl rfl rfl rfl rfl rfl ty51 eq51 R_988 R_990 ?_)
              clear S; intro a S
              refine wl_pure (l' := [(136, .bool (eqP (.pair (.int .u16) (.pair (.int .u8) (.pair (.int .u8) (.pair (.int .u8) (.pair .bool (.pair .bool (.int .u8))))))) t_51.1 (0, 0, 0, 0, false, false, 0))), (135, .bool (eqP (.pair (.int .u16) (.pair (.int .u8) (.pair (.int .u8) (.pair (.int .u8) (.pair .bool (.pair .bool (.int .u8))))))) t_51.1 (0, 0, 0, 0, false, false, 0))), (134, v_989), (133, v_987), (132, .bool true), (131, .bool true), (130, .int .i64 (lenI x1)), (129, v1), (128, .int .i64 t_51.2), (11, .bool q_154), (10, .int .i64 t_51.2), (9, .pointer (some (⟨b_58, 0, .none⟩ : Addr))), (1, v1)]) S tys tys_ok 1 (by kernel_rfl) ?_
              clear S; intro a S
              obtain rfl := Option.some.inj eq_986
              exact ⟨rfl, S.sub (by exact ⟨rfl, rfl, trivial⟩)⟩
            · rw [if_neg hc] at eq_986; rw [show t_981 = false from Bool.eq_false_iff.2 hc] at S
              refine wl_pure (l' := [(136, .bool false), (135, undef), (134, undef), (133, undef), (132, .bool false), (131, .bool false), (130, .int .i64 (lenI x1)), (129, v1), (128, .int .i64 t_51.2), (11, .bool q_154), (10, .int .i64 t_51.2), (9, .pointer (some (⟨b_58, 0, .none⟩ : Addr))), (1, v1)]) S tys tys_ok 4 (by kernel_rfl) ?_
              clear S; intro a S
              obtain rfl := Option.some.inj eq_986
              exact ⟨rfl, S.sub (by exact ⟨rfl, rfl, trivial⟩)⟩
          clear S eq_986; rintro a _ ⟨rfl, S⟩
          refine wl_pure (l' := [(137, .bool q_986), (136, .bool q_986), (11, .bool q_154)]) S tys tys_ok 1 (by kernel_rfl) ?_
          clear S; intro a S
          obtain ⟨q_991, eq_991, h⟩ := bindS h
          refine seg 3 (fun a_ w_ => w_985 = w_ ∧ St 152 a_ [(140, .bool q_991)]) ?_ ?_
          · by_cases hc : q_986 = true
            · rw [if_pos hc] at eq_991; rw [hc] at S
              refine wl_pure (l' := [(140, .bool (!q_154)), (139, .bool (!q_154)), (138, .bool q_154), (137, .bool true), (136, .bool true), (11, .bool q_154)]) S tys tys_ok 3 (by kernel_rfl) ?_
              clear S; intro a S
              obtain rfl := Option.some.inj eq_991
              exact ⟨rfl, S.sub (by exact ⟨rfl, trivial⟩)⟩
            · rw [if_neg hc] at eq_991; rw [show q_986 = false from Bool.eq_false_iff.2 hc] at S
              refine wl_pure (l' := [(140, .bool false), (139, undef), (138, undef), (137, .bool false), (136, .bool false), (11, .bool q_154)]) S tys tys_ok 3 (by kernel_rfl) ?_
              clear S; intro a S
              obtain rfl := Option.some.inj eq_991
              exact ⟨rfl, S.sub (by exact ⟨rfl, trivial⟩)⟩
          clear S eq_991; rintro a _ ⟨rfl, S⟩
          refine wl_pure (l' := [(141, .bool q_991), (140, .bool q_991)]) S tys tys_ok 1 (by kernel_rfl) ?_
          clear S; intro a S
          obtain ⟨q_992, eq_992, h⟩ := bindS h
          refine seg 2 (fun a_ w_ => St 152 a_ [(143, .bool q_992)] ∧ Wd w w_ [some b_58, some b_39, some b_1] ∧ Bx (.st (.pair (.int .u16) (.pair (.int .u8) (.pair (.int .u8) (.pair (.int .u8) (.pair .bool (.pair .bool (.int .u8)))))))) 51 w_ (Kx K w.heap.size [some b_58, some b_39, some b_1]) b_1 x0 ∧ Bx (.st (.pair (.int .u16) (.pair (.int .u8) (.pair (.int .u8) (.pair (.int .u8) (.pair .bool (.pair .bool (.int .u8)))))))) 51 w_ (Kx K w.heap.size [some b_58, some b_39, some b_1]) b_39 t_32.1 ∧ Bx (.st (.pair (.int .u16) (.pair (.int .u8) (.pair (.int .u8) (.pair (.int .u8) (.pair .bool (.pair .bool (.int .u8)))))))) 51 w_ (Kx K w.heap.size [some b_58, some b_39, some b_1]) b_58 t_51.1) ?_ ?_
          · by_cases hc : q_991 = true
            · rw [if_pos hc] at eq_992; rw [hc] at S
              obtain ⟨t_993, et_993, eq_992⟩ := bindS eq_992
              refine w_go S rfl (op_call (vs := []) S rfl cb11 rfl rfl rfl (c11 (Kx K w.heap.size [some b_58, some b_39, some b_1]) n w_985  et_993) ?_)
              rintro _ w_997 ⟨v_994, rfl, R_995, hb_996⟩; refine ⟨_, rfl, ?_⟩
              replace R_995 := RepV.back R_995 W
              clear S; intro a S
              replace B_2 := B_2.step hb_996
              replace B_40 := B_40.step hb_996
              replace B_59 := B_59.step hb_996
              replace W := W.step hb_996
              obtain rfl := RepV.bool R_995
              refine wl_pure (l' := [(143, .bool t_993), (142, .bool t_993), (141, .bool true), (140, .bool true)]) S tys tys_ok 1 (by kernel_rfl) ?_
              clear S; intro a S
              obtain rfl := Option.some.inj eq_992
              exact ⟨S.sub (by exact ⟨rfl, trivial⟩), W, B_2, B_40, B_59⟩
            · rw [if_neg hc] at eq_992; rw [show q_991 = false from Bool.eq_false_iff.2 hc] at S
              refine wl_pure (l' := [(143, .bool false), (142, undef), (141, .bool false), (140, .bool false)]) S tys tys_ok 2 (by kernel_rfl) ?_
              clear S; intro a S
              obtain rfl := Option.some.inj eq_992
              exact ⟨S.sub (by exact ⟨rfl, trivial⟩), W, B_2, B_40, B_59⟩
          clear S W eq_992; rintro a w_998 ⟨S, W, B_2, B_40, B_59⟩
          refine wl_pure (l' := [(4, .bool q_992), (143, .bool q_992)]) S tys tys_ok 1 (by kernel_rfl) ?_
          clear S; intro a S
          refine wpList_nil ?_
          refine then_n ?_
          replace S := S.sub (l' := [(4, .bool q_992)]) (by exact ⟨rfl, trivial⟩)
          refine wp_ret ?_
          refine then_r ?_
          obtain rfl := Option.some.inj h
          exact b_ret1 S rfl rfl ⟨_, rfl, RepV.mkBool, W.below⟩
        · intro hc
          rw [if_neg (Bool.eq_false_iff.1 hc)] at h
          refine wp_skip ?_
          refine then_n ?_
          replace S := S.sub (l' := [(9, .pointer (some (⟨b_58, 0, .none⟩ : Addr))), (1, v1)]) (by exact ⟨rfl, rfl, trivial⟩)
          refine wp_seq ?_
          obtain ⟨t_1001, et_1001, h⟩ := bindS h
          obtain ⟨q_1006, eq_1006, h⟩ := bindS h
          obtain ⟨t_1008, HG_1007⟩ : ∃ (t_1008 : (Bool)) , ((decide (t_1001 = x1.xs)) = true → (p11 n) = some t_1008 ∧ t_1008 = q_1006) ∧ (¬ (decide (t_1001 = x1.xs)) = true → false = q_1006) := by
            by_cases hc : (decide (t_1001 = x1.xs)) = true
            · rw [if_pos hc] at eq_1006
              obtain ⟨t_1008, et_1008, eq_1006⟩ := bindS eq_1006
              exact ⟨t_1008, ⟨fun _ => ⟨et_1008, Option.some.inj eq_1006⟩, fun k_ => absurd hc k_⟩⟩
            · rw [if_neg hc] at eq_1006
              exact ⟨default, ⟨fun k_ => absurd k_ hc, fun _ => Option.some.inj eq_1006⟩⟩
          have hR : Rel (Kx K w.heap.size [some b_58, some b_39, some b_1]) Bl := Bl.rel _
          refine wp_region_all hR [isRep (.st (.pair (.int .u16) (.pair (.int .u8) (.pair (.int .u8) (.pair (.int .u8) (.pair .bool (.pair .bool (.int .u8)))))))) (Kx K w.heap.size [some b_58, some b_39, some b_1]) t_51.1, isS t_1001, isRep (.sl (.int .u8)) (Kx K w.heap.size [some b_58, some b_39, some b_1]) x1, isS x1.xs, eqv (.bool (decide (t_1001 = x1.xs))), eqv (.bool (decide (t_1001 = x1.xs))), cndF (decide (t_1001 = x1.xs)) true (eqv (.bool t_1008)), eqv (.bool q_1006), eqv (.bool q_1006)] [[], [(0, 144)], [], [(2, 146)], [(1, 145), (3, 147)], [(4, 148)], [(5, 149)], [(5, 149), (6, 150)], [(7, 151)]] (by kernel_rfl) (by rw [S.size]; kernel_rfl) (by kernel_rfl) (by kernel_rfl) rfl ⟨(stab_rep hR), stab_S, (stab_rep hR), stab_S, (stab_eqv _), (stab_eqv _), (stab_cnd (stab_eqv _)), (stab_eqv _), (stab_eqv _), trivial⟩ ?_ ?_
          ·
            refine RunAll.cons (isRep (.st (.pair (.int .u16) (.pair (.int .u8) (.pair (.int .u8) (.pair (.int .u8) (.pair .bool (.pair .bool (.int .u8)))))))) (Kx K w.heap.size [some b_58, some b_39, some b_1]) t_51.1) [] rfl rfl ?_ ?_
            · intro W_ hW
              have S1 := S
              refine fill_nil S1 ?_; clear S1; intro a_ S1
              replace B_59 := B_59.step hW
              have S0 := S.defers; replace S := S1; clear S1
              refine w_go S rfl (op_load (t := (.st (.pair (.int .u16) (.pair (.int .u8) (.pair (.int .u8) (.pair (.int .u8) (.pair .bool (.pair .bool (.int .u8))))))))) (x := t_51.1) S rfl ty51 rfl rfl rfl B_59.at_ ?_)
              clear S; intro a v_1013 R_1014 S
              refine wpList_nil ?_
              exact RPost.mk_ S rfl S0 R_1014 (Below.refl _ _)
            refine RunAll.cons (isS t_1001) [(isRep (.st (.pair (.int .u16) (.pair (.int .u8) (.pair (.int .u8) (.pair (.int .u8) (.pair .bool (.pair .bool (.int .u8)))))))) (Kx K w.heap.size [some b_58, some b_39, some b_1]) t_51.1, 144)] rfl rfl ?_ ?_
            · intro W_ hW
              have S1 := S
              intro v_1016 hF_1015; replace hF_1015 : RepV _ _ _ _ _ := hF_1015
              replace S1 := S1.put (by decide : 144 < 152) (v_1016)
              refine fill_nil S1 ?_; clear S1; intro a_ S1
              replace W := W.step hW
              have S0 := S.defers; replace S := S1; clear S1
              refine w_go S rfl (op_call (vs := [v_1016]) S rfl cb20 rfl rfl rfl (c20 (Kx K w.heap.size [some b_58, some b_39, some b_1]) n W_ t_51.1 _ hF_1015 et_1001) ?_)
              rintro _ w_1020 ⟨v_1017, rfl, R_1018, hb_1019⟩; refine ⟨_, rfl, ?_⟩
              replace R_1018 := RepV.back R_1018 W
              clear S; intro a S
              obtain ⟨rfl, GR_1018⟩ := RepV.str R_1018
              refine wpList_nil ?_
              exact RPost.mk_ S rfl S0 ⟨rfl, GR_1018⟩ (hb_1019)
            refine RunAll.cons (isRep (.sl (.int .u8)) (Kx K w.heap.size [some b_58, some b_39, some b_1]) x1) [] rfl rfl ?_ ?_
            · intro W_ hW
              have S1 := S
              refine fill_nil S1 ?_; clear S1; intro a_ S1
              replace R1 := R1.step hW
              have S0 := S.defers; replace S := S1; clear S1
              refine wl_pure (l' := [(146, v1), (9, .pointer (some (⟨b_58, 0, .none⟩ : Addr))), (1, v1)]) S tys tys_ok 1 (by kernel_rfl) ?_; clear S; intro a S
              refine wpList_nil ?_
              exact RPost.mk_ S rfl S0 R1 (Below.refl _ _)
            refine RunAll.cons (isS x1.xs) [(isRep (.sl (.int .u8)) (Kx K w.heap.size [some b_58, some b_39, some b_1]) x1, 146)] rfl rfl ?_ ?_
            · intro W_ hW
              have S1 := S
              intro v_1022 hF_1021; replace hF_1021 : RepV _ _ _ _ _ := hF_1021
              replace S1 := S1.put (by decide : 146 < 152) (v_1022)
              refine fill_nil S1 ?_; clear S1; intro a_ S1
              replace W := W.step hW
              have S0 := S.defers; replace S := S1; clear S1
              refine w_go S rfl (op_str (K := _) S rfl ty23 ty9 rfl rfl rfl hF_1021 ?_)
              clear S; intro a S
              refine wpList_nil ?_
              exact RPost.mk_ S rfl S0 ⟨rfl, hF_1021.byt⟩ (Below.refl _ _)
            refine RunAll.cons (eqv (.bool (decide (t_1001 = x1.xs)))) [(isS t_1001, 145), (isS x1.xs, 147)] rfl rfl ?_ ?_
            · intro W_ hW
              have S1 := S
              rintro _ ⟨rfl, hF_1023⟩
              replace S1 := S1.put (by decide : 145 < 152) (.string (strOfNums t_1001))
              rintro _ ⟨rfl, hF_1025⟩
              replace S1 := S1.put (by decide : 147 < 152) (.string (strOfNums x1.xs))
              refine fill_nil S1 ?_; clear S1; intro a_ S1
              have S0 := S.defers; replace S := S1; clear S1
              refine w_go S rfl (op_streq S rfl rfl rfl rfl rfl (hF_1023).1 (hF_1025).1 ?_)
              clear S; intro a S
              refine wpList_nil ?_
              exact RPost.mk_ S rfl S0 rfl (Below.refl _ _)
            refine RunAll.cons (eqv (.bool (decide (t_1001 = x1.xs)))) [(eqv (.bool (decide (t_1001 = x1.xs))), 148)] rfl rfl ?_ ?_
            · intro W_ hW
              have S1 := S
              intro v_1028 hF_1027; obtain rfl : v_1028 = .bool (decide (t_1001 = x1.xs)) := hF_1027
              replace S1 := S1.put (by decide : 148 < 152) (.bool (decide (t_1001 = x1.xs)))
              refine fill_nil S1 ?_; clear S1; intro a_ S1
              have S0 := S.defers; replace S := S1; clear S1
              refine wl_pure (l' := [(149, .bool (decide (t_1001 = x1.xs))), (148, .bool (decide (t_1001 = x1.xs))), (9, .pointer (some (⟨b_58, 0, .none⟩ : Addr))), (1, v1)]) S tys tys_ok 1 (by kernel_rfl) ?_; clear S; intro a S
              refine wpList_nil ?_
              exact RPost.mk_ S rfl S0 rfl (Below.refl _ _)
            refine RunAll.cons (cndF (decide (t_1001 = x1.xs)) true (eqv (.bool t_1008))) [(eqv (.bool (decide (t_1001 = x1.xs))), 149)] rfl rfl ?_ ?_
            · intro W_ hW
              by_cases hc0 : (decide (t_1001 = x1.xs)) = true
              · have hl0 : (decide (t_1001 = x1.xs)) = true := hc0
                have S1 := S
                intro v_1030 hF_1029; obtain rfl : v_1030 = .bool (decide (t_1001 = x1.xs)) := hF_1029
                replace S1 := S1.put (by decide : 149 < 152) (.bool (decide (t_1001 = x1.xs)))
                refine fill_nil S1 ?_; clear S1; intro a_ S1
                replace W := W.step hW
                rw [show (decide (t_1001 = x1.xs)) = true from hl0] at S1
                have S0 := S.defers; replace S := S1; clear S1
                obtain ⟨et_1008, _⟩ := (HG_1007).1 hc0
                refine w_go S rfl (op_call (vs := []) S rfl cb11 rfl rfl rfl (c11 (Kx K w.heap.size [some b_58, some b_39, some b_1]) n W_  et_1008) ?_)
                rintro _ w_1034 ⟨v_1031, rfl, R_1032, hb_1033⟩; refine ⟨_, rfl, ?_⟩
                replace R_1032 := RepV.back R_1032 W
                clear S; intro a S
                obtain rfl := RepV.bool R_1032
                refine wpList_nil ?_
                exact RPost.mk_ S rfl S0 ⟨fun _ => rfl, fun k_ => absurd hc0 k_⟩ (hb_1033)
              · have hl0 : (decide (t_1001 = x1.xs)) = false := Bool.eq_false_iff.2 hc0
                have S1 := S
                intro v_1036 hF_1035; obtain rfl : v_1036 = .bool (decide (t_1001 = x1.xs)) := hF_1035
                replace S1 := S1.put (by decide : 149 < 152) (.bool (decide (t_1001 = x1.xs)))
                refine fill_nil S1 ?_; clear S1; intro a_ S1
                rw [show (decide (t_1001 = x1.xs)) = false from hl0] at S1
                have S0 := S.defers; replace S := S1; clear S1
                refine wl_pure (l' := [(150, undef), (149, .bool false), (9, .pointer (some (⟨b_58, 0, .none⟩ : Addr))), (1, v1)]) S tys tys_ok 1 (by kernel_rfl) ?_; clear S; intro a S
                refine wpList_nil ?_
                exact RPost.mk_ S rfl S0 ⟨fun k_ => absurd k_ hc0, fun _ => rfl⟩ (Below.refl _ _)
            refine RunAll.cons (eqv (.bool q_1006)) [(eqv (.bool (decide (t_1001 = x1.xs))), 149), (cndF (decide (t_1001 = x1.xs)) true (eqv (.bool t_1008)), 150)] rfl rfl ?_ ?_
            · intro W_ hW
              by_cases hc0 : (decide (t_1001 = x1.xs)) = true
              · have hl0 : (decide (t_1001 = x1.xs)) = true := hc0
                have S1 := S
                intro v_1038 hF_1037; obtain rfl : v_1038 = .bool (decide (t_1001 = x1.xs)) := hF_1037
                replace S1 := S1.put (by decide : 149 < 152) (.bool (decide (t_1001 = x1.xs)))
                intro v_1039 hF_1040
                replace hF_1040 := cndF.pos hF_1040 hc0
                revert hF_1040
                revert v_1039
                intro v_1042 hF_1041; obtain rfl : v_1042 = .bool t_1008 := hF_1041
                replace S1 := S1.put (by decide : 150 < 152) (.bool t_1008)
                refine fill_nil S1 ?_; clear S1; intro a_ S1
                rw [show (decide (t_1001 = x1.xs)) = true from hl0] at S1
                have S0 := S.defers; replace S := S1; clear S1
                refine wl_pure (l' := [(151, .bool t_1008), (150, .bool t_1008), (149, .bool true), (9, .pointer (some (⟨b_58, 0, .none⟩ : Addr))), (1, v1)]) S tys tys_ok 1 (by kernel_rfl) ?_; clear S; intro a S
                refine wpList_nil ?_
                exact RPost.mk_ S rfl S0 (congrArg Value.bool ((HG_1007).1 hc0).2) (Below.refl _ _)
              · have hl0 : (decide (t_1001 = x1.xs)) = false := Bool.eq_false_iff.2 hc0
                have S1 := S
                intro v_1044 hF_1043; obtain rfl : v_1044 = .bool (decide (t_1001 = x1.xs)) := hF_1043
                replace S1 := S1.put (by decide : 149 < 152) (.bool (decide (t_1001 = x1.xs)))
                intro v_1045 hF_1046
                obtain rfl := cndF.neg hF_1046 hc0
                replace S1 := S1.put (by decide : 150 < 152) (undef)
                refine fill_nil S1 ?_; clear S1; intro a_ S1
                rw [show (decide (t_1001 = x1.xs)) = false from hl0] at S1
                have S0 := S.defers; replace S := S1; clear S1
                refine wl_pure (l' := [(151, .bool false), (150, undef), (149, .bool false), (9, .pointer (some (⟨b_58, 0, .none⟩ : Addr))), (1, v1)]) S tys tys_ok 1 (by kernel_rfl) ?_; clear S; intro a S
                refine wpList_nil ?_
                exact RPost.mk_ S rfl S0 (congrArg Value.bool ((HG_1007).2 hc0)) (Below.refl _ _)
            refine RunAll.cons (eqv (.bool q_1006)) [(eqv (.bool q_1006), 151)] rfl rfl ?_ ?_
            · intro W_ hW
              have S1 := S
              intro v_1048 hF_1047; obtain rfl : v_1048 = .bool q_1006 := hF_1047
              replace S1 := S1.put (by decide : 151 < 152) (.bool q_1006)
              refine fill_nil S1 ?_; clear S1; intro a_ S1
              have S0 := S.defers; replace S := S1; clear S1
              refine wl_pure (l' := [(4, .bool q_1006), (151, .bool q_1006), (9, .pointer (some (⟨b_58, 0, .none⟩ : Addr))), (1, v1)]) S tys tys_ok 1 (by kernel_rfl) ?_; clear S; intro a S
              refine wpList_nil ?_
              exact RPost.mk_ S rfl S0 rfl (Below.refl _ _)
            exact trivial
          intro w_1049 hb_1050
          refine EndE.some_ rfl ?_
          intro v_1052 hF_1051; replace hF_1051 : RepV _ _ _ _ _ := hF_1051
          replace S := S.put (by decide : 144 < 152) (v_1052)
          refine EndE.some_ rfl ?_
          rintro _ ⟨rfl, hF_1053⟩
          replace S := S.put (by decide : 145 < 152) (.string (strOfNums t_1001))
          refine EndE.some_ rfl ?_
          intro v_1056 hF_1055; replace hF_1055 : RepV _ _ _ _ _ := hF_1055
          replace S := S.put (by decide : 146 < 152) (v_1056)
          refine EndE.some_ rfl ?_
          rintro _ ⟨rfl, hF_1057⟩
          replace S := S.put (by decide : 147 < 152) (.string (strOfNums x1.xs))
          refine EndE.some_ rfl ?_
          intro v_1060 hF_1059; obtain rfl : v_1060 = .bool (decide (t_1001 = x1.xs)) := hF_1059
          replace S := S.put (by decide : 148 < 152) (.bool (decide (t_1001 = x1.xs)))
          refine EndE.some_ rfl ?_
          intro v_1062 hF_1061; obtain rfl : v_1062 = .bool (decide (t_1001 = x1.xs)) := hF_1061
          replace S := S.put (by decide : 149 < 152) (.bool (decide (t_1001 = x1.xs)))
          refine EndE.some_ rfl ?_
          intro v_1063 _
          replace S := S.put (by decide : 150 < 152) (v_1063)
          refine EndE.some_ rfl ?_
          intro v_1065 hF_1064; obtain rfl : v_1065 = .bool q_1006 := hF_1064
          replace S := S.put (by decide : 151 < 152) (.bool q_1006)
          refine EndE.some_ rfl ?_
          intro v_1067 hF_1066; obtain rfl : v_1067 = .bool q_1006 := hF_1066
          replace S := S.put (by decide : 4 < 152) (.bool q_1006)
          refine endE_nil S ?_; clear S; intro a S
          replace R1 := R1.step hb_1050
          replace B_2 := B_2.step hb_1050
          replace B_40 := B_40.step hb_1050
          replace B_59 := B_59.step hb_1050
          replace W := W.step hb_1050
          refine then_n ?_
          replace S := S.sub (l' := [(4, .bool q_1006)]) (by exact ⟨rfl, trivial⟩)
          refine wp_ret ?_
          obtain rfl := Option.some.inj h
          exact b_ret1 S rfl rfl ⟨_, rfl, RepV.mkBool, W.below⟩

end Go.Proofs.Ytojifdijcanbpaa
