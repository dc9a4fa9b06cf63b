/- x. -/
import Derived.Test.YtojifdijcanbpaaQh1
set_option linter.unusedVariables false
set_option linter.unusedSimpArgs false
namespace Go.Proofs.Ytojifdijcanbpaa
open Go.RowKit

def p8 (n : Nat) (x0 : Int × Int × Int × (Sl (Bool))) (x1 : Sl (Int)) : Option ((Bool)) :=
  (if (decide ((lenI x0.2.2.2) > 20)) = false then some (decide ((lenI x1) > 40)) else some true).bind fun q_8 =>
  if q_8 then ((p11 n).bind fun t_10 => some t_10) else (p27 n x0).bind fun t_17 => (p28 n x0).bind fun t_26 => (p19 n (⟨t_17.1.xs, t_17.1.cap⟩ : Sl (Int)) t_17.2 t_26).bind fun t_31 => if (!t_31) then (some false) else (p29 n (⟨t_17.1.xs, t_17.1.cap⟩ : Sl (Int))).bind fun t_37 => (if (t_17.2 == 0) = true then (p28 n t_37.1).bind fun t_54 => (if (!(decide (t_54 = (⟨t_17.1.xs, t_17.1.cap⟩ : Sl (Int)).xs))) = false then some (t_37.2 != 0) else some true).bind fun q_59 => some q_59 else some false).bind fun q_50 => if q_50 then (some false) else (p29 n x1).bind fun t_206 => if (t_206.2 != 0) then ((if ((lenI x1) == 9) = true then (idx x1.xs 0).bind fun y_222 => some (y_222 == 9) else some false).bind fun q_220 => (if q_220 = true then (idx x1.xs 1).bind fun y_230 => some (y_230 == 41) else some false).bind fun q_228 => (if q_228 = true then (idx x1.xs 2).bind fun y_238 => some (decide (y_238 > 0)) else some false).bind fun q_236 => (if q_236 = true then (idx x1.xs 2).bind fun y_246 => some (decide (y_246 < 8)) else some false).bind fun q_244 => (if q_244 = true then (idx x1.xs 3).bind fun y_254 => some (y_254 == 9) else some false).bind fun q_252 => (if q_252 = true then (idx x1.xs 4).bind fun y_262 => some (y_262 == 0) else some false).bind fun q_260 => (if q_260 = true then (idx x1.xs 7).bind fun y_270 => (remI .u8 y_270 2).bind fun x_276 => some (x_276 == 0) else some false).bind fun q_268 => (if q_268 = true then (idx x1.xs 2).bind fun y_279 => (if (y_279 == 7) = false then (idx x1.xs 7).bind fun y_287 => (idx x1.xs 2).bind fun y_293 => (shlI .i64 2 y_293).bind fun x_299 => some (decide (y_287 < x_299)) else some true).bind fun q_285 => some q_285 else some false).bind fun q_277 => (if q_277 = true then (idx x1.xs 8).bind fun y_302 => some (y_302 == 255) else some false).bind fun q_300 => (p22 n t_206.2 (lenI x1) 9).bind fun t_1110 => (if t_1110 = true then some (t_206.1.1 == 0) else some false).bind fun q_1115 => (if q_1115 = true then some (t_206.1.2.1 == 0) else some false).bind fun q_1118 => (if q_1118 = true then some (t_206.1.2.2.1 == 0) else some false).bind fun q_1121 => (if q_1121 = true then some ((lenI t_206.1.2.2.2) == 0) else some false).bind fun q_1124 => (if q_1124 = true then some (!q_300) else some false).bind fun q_1128 => (if q_1128 = true then (p11 n).bind fun t_1130 => some t_1130 else some false).bind fun q_1129 => some q_1129) else (p28 n t_206.1).bind fun t_1138 => (if (decide (t_1138 = x1.xs)) = true then (capO t_206.1.2.2.2).bind fun x_1148 => some (x_1148 == (lenI t_206.1.2.2.2)) else some false).bind fun q_1143 => (if q_1143 = true then (p11 n).bind fun t_1154 => some t_1154 else some false).bind fun q_1152 => some q_1152
set_option maxHeartbeats 4000000 in
set_option maxRecDepth 100000 in
/-- plugboard/plugboardlaw13.DescriptorsHub -/
theorem c8 (K : Nat → Prop) (n : Nat) (w : World) (x0 : Int × Int × Int × (Sl (Bool))) (v0 : Value) (R0 : RepV (.st (.pair (.int .u8) (.pair (.int .u8) (.pair (.int .u8) (.sl .bool))))) w K v0 x0) (x1 : Sl (Int)) (v1 : Value) (R1 : RepV (.sl (.int .u8)) w K v1 x1) {r : (Bool)} (h : p8 n x0 x1 = some r) :
    Calls Try.prog 8 #[v0, v1] w (Ret1 .bool w (Kx K w.heap.size []) r) := by
  refine enter (args := [v0, v1]) Try.func8 rfl 176 rfl rfl fun a S => ?_
  have W := Wd.start w
  replace R0 := R0.arg
  replace R1 := R1.arg
  unfold p8 at h
  replace S : St 176 a [(0, v0), (1, v1)] := S
  refine wp_seq ?_
  refine wp_region_lit ?_
  refine w_go S rfl (op_box S rfl rfl rfl rfl rfl R0 ?_)
  clear S; intro a w_3 b_1 hb_4 B_2 S
  replace R0 := R0.box hb_4
  replace R1 := R1.box hb_4
  replace W := W.box hb_4
  refine wl_pure (l' := [(4, .bool false), (2, .pointer (some (⟨b_1, 0, .none⟩ : Addr))), (0, v0), (1, v1)]) S tys tys_ok 1 (by kernel_rfl) ?_
  clear S; intro a S
  refine wpList_nil ?_
  refine then_n ?_
  replace S := S.sub (l' := [(2, .pointer (some (⟨b_1, 0, .none⟩ : Addr))), (1, v1)]) (by exact ⟨rfl, rfl, trivial⟩)
  refine wp_seq ?_
  refine wp_seq ?_
  refine wp_region_lit ?_
  refine wl_pure (l' := [(12, .pointer (some ((⟨b_1, 0, .none⟩ : Addr).add (coff (.pair (.int .u8) (.pair (.int .u8) (.pair (.int .u8) (.sl .bool)))) 3)))), (2, .pointer (some (⟨b_1, 0, .none⟩ : Addr))), (1, v1)]) S tys tys_ok 1 (by kernel_rfl) ?_
  clear S; intro a S
  refine w_go S rfl (op_load (t := (.sl .bool)) (x := x0.2.2.2) S rfl ty64 rfl rfl rfl (RepAt.add 3 (RepAt.st B_2.at_)) ?_)
  clear S; intro a v_5 R_6 S
  refine w_go S rfl (op_len (K := _) S rfl ty64 rfl rfl rfl R_6 ?_)
  clear S; intro a G_7 S
  refine wl_pure (l' := [(16, .bool (decide ((lenI x0.2.2.2) > 20))), (15, .bool (decide ((lenI x0.2.2.2) > 20))), (14, .int .i64 (lenI x0.2.2.2)), (13, v_5), (12, .pointer (some ((⟨b_1, 0, .none⟩ : Addr).add (coff (.pair (.int .u8) (.pair (.int .u8) (.pair (.int .u8) (.sl .bool)))) 3)))), (2, .pointer (some (⟨b_1, 0, .none⟩ : Addr))), (1, v1)]) S tys tys_ok 2 (by kernel_rfl) ?_
  clear S; intro a S
  obtain ⟨q_8, eq_8, h⟩ := bindS h
  refine seg 4 (fun a_ w_ => w_3 = w_ ∧ St 176 a_ [(20, .bool q_8), (2, .pointer (some (⟨b_1, 0, .none⟩ : Addr))), (1, v1)]) ?_ ?_
  · by_cases hc : (decide ((lenI x0.2.2.2) > 20)) = false
    · rw [if_pos hc] at eq_8; rw [hc] at S
      refine wl_pure (l' := [(17, v1), (16, .bool false), (15, .bool false), (14, .int .i64 (lenI x0.2.2.2)), (13, v_5), (12, .pointer (some ((⟨b_1, 0, .none⟩ : Addr).add (coff (.pair (.int .u8) (.pair (.int .u8) (.pair (.int .u8) (.sl .bool)))) 3)))), (2, .pointer (some (⟨b_1, 0, .none⟩ : Addr))), (1, v1)]) S tys tys_ok 1 (by kernel_rfl) ?_
      clear S; intro a S
      refine w_go S rfl (op_len (K := _) S rfl ty23 rfl rfl rfl R1 ?_)
      clear S; intro a G_9 S
      refine wl_pure (l' := [(20, .bool (decide ((lenI x1) > 40))), (19, .bool (decide ((lenI x1) > 40))), (18, .int .i64 (lenI x1)), (17, v1), (16, .bool false), (15, .bool false), (14, .int .i64 (lenI x0.2.2.2)), (13, v_5), (12, .pointer (some ((⟨b_1, 0, .none⟩ : Addr).add (coff (.pair (.int .u8) (.pair (.int .u8) (.pair (.int .u8) (.sl .bool)))) 3)))), (2, .pointer (some (⟨b_1, 0, .none⟩ : Addr))), (1, v1)]) S tys tys_ok 2 (by kernel_rfl) ?_
      clear S; intro a S
      obtain rfl := Option.some.inj eq_8
      exact ⟨rfl, S.sub (by exact ⟨rfl, rfl, rfl, trivial⟩)⟩
    · rw [if_neg hc] at eq_8; rw [show (decide ((lenI x0.2.2.2) > 20)) = true from (by simpa using hc)] at S
      refine wl_pure (l' := [(20, .bool true), (19, undef), (18, undef), (17, undef), (16, .bool true), (15, .bool true), (14, .int .i64 (lenI x0.2.2.2)), (13, v_5), (12, .pointer (some ((⟨b_1, 0, .none⟩ : Addr).add (coff (.pair (.int .u8) (.pair (.int .u8) (.pair (.int .u8) (.sl .bool)))) 3)))), (2, .pointer (some (⟨b_1, 0, .none⟩ : Addr))), (1, v1)]) S tys tys_ok 4 (by kernel_rfl) ?_
      clear S; intro a S
      obtain rfl := Option.some.inj eq_8
      exact ⟨rfl, S.sub (by exact ⟨rfl, rfl, rfl, trivial⟩)⟩
  clear S eq_8; rintro a _ ⟨rfl, S⟩
  refine wpList_nil ?_
  refine then_n ?_
  refine wp_cond_split (S.eval (show ev _ _ = some (.bool q_8) from rfl)) ?_ ?_
  · intro hc
    rw [if_pos hc] at h
    refine wp_seq ?_
    refine wp_region_lit ?_
    obtain ⟨t_10, et_10, h⟩ := bindS h
    refine w_go S rfl (op_call (vs := []) S rfl cb11 rfl rfl rfl (c11 (Kx K w.heap.size [some b_1]) n w_3  et_10) ?_)
    rintro _ w_14 ⟨v_11, rfl, R_12, hb_13⟩; refine ⟨_, rfl, ?_⟩
    replace R_12 := RepV.back R_12 W
    clear S; intro a S
    replace R1 := R1.step hb_13
    replace B_2 := B_2.step hb_13
    replace W := W.step hb_13
    obtain rfl := RepV.bool R_12
    refine wl_pure (l' := [(4, .bool t_10), (21, .bool t_10), (20, .bool q_8), (2, .pointer (some (⟨b_1, 0, .none⟩ : Addr))), (1, v1)]) S tys tys_ok 1 (by kernel_rfl) ?_
    clear S; intro a S
    refine wpList_nil ?_
    refine then_n ?_
    replace S := S.sub (l' := [(4, .bool t_10)]) (by exact ⟨rfl, trivial⟩)
    refine wp_ret ?_
    refine then_r ?_
    obtain rfl := Option.some.inj h
    exact b_ret1 S rfl rfl ⟨_, rfl, RepV.mkBool, W.below⟩
  · intro hc
    rw [if_neg (Bool.eq_false_iff.1 hc)] at h
    refine wp_skip ?_
    refine then_n ?_
    replace S := S.sub (l' := [(2, .pointer (some (⟨b_1, 0, .none⟩ : Addr))), (1, v1)]) (by exact ⟨rfl, rfl, trivial⟩)
    refine wp_seq ?_
    refine wp_region_lit ?_
    refine w_go S rfl (op_load (t := (.st (.pair (.int .u8) (.pair (.int .u8) (.pair (.int .u8) (.sl .bool)))))) (x := x0) S rfl ty66 rfl rfl rfl B_2.at_ ?_)
    clear S; intro a v_15 R_16 S
    obtain ⟨t_17, et_17, h⟩ := bindS h
    refine w_go S rfl (op_call (vs := [v_15]) S rfl cb27 rfl rfl rfl (c27 (Kx K w.heap.size [some b_1]) n w_3 x0 _ R_16 et_17) ?_)
    rintro _ w_23 ⟨v_18, v_19, rfl, R_20, R_21, hb_22⟩; refine ⟨_, rfl, ?_⟩
    have NO_ := newO_of R_20 (Nat.le_refl _) hb_22
    replace R_20 := Ow.backO R_20 W
    replace R_21 := RepV.backO R_21 W
    clear S; intro a S
    replace R1 := R1.newO NO_
    replace R_16 := R_16.newO NO_
    replace B_2 := B_2.newO NO_
    replace W := W.newO NO_
    clear NO_
    obtain ⟨rfl, GR_21⟩ := RepV.int R_21
    refine wl_pure (l' := [(6, .int .i64 t_17.2), (5, v_18), (26, .int .i64 t_17.2), (25, v_18), (22, .tuple #[v_18, .int .i64 t_17.2]), (24, .tuple #[v_18, .int .i64 t_17.2]), (23, v_15), (2, .pointer (some (⟨b_1, 0, .none⟩ : Addr))), (1, v1)]) S tys tys_ok 5 (by kernel_rfl) ?_
    clear S; intro a S
    refine wpList_nil ?_
    refine then_n ?_
    replace S := S.sub (l' := [(6, .int .i64 t_17.2), (5, v_18), (2, .pointer (some (⟨b_1, 0, .none⟩ : Addr))), (1, v1)]) (by exact ⟨rfl, rfl, rfl, rfl, trivial⟩)
    refine wp_seq ?_
    refine wp_seq ?_
    refine wp_region_lit ?_
    refine wl_pure (l' := [(28, .int .i64 t_17.2), (27, v_18), (6, .int .i64 t_17.2), (5, v_18), (2, .pointer (some (⟨b_1, 0, .none⟩ : Addr))), (1, v1)]) S tys tys_ok 2 (by kernel_rfl) ?_
    clear S; intro a S
    refine w_go S rfl (op_load (t := (.st (.pair (.int .u8) (.pair (.int .u8) (.pair (.int .u8) (.sl .bool)))))) (x := x0) S rfl ty66 rfl rfl rfl B_2.at_ ?_)
    clear S; intro a v_24 R_25 S
    obtain ⟨t_26, et_26, h⟩ := bindS h
    refine w_go S rfl (op_call (vs := [v_24]) S rfl cb28 rfl rfl rfl (c28 (Kx K w.heap.size [v_18.ownBlock, some b_1]) n w_23 x0 _ R_25 et_26) ?_)
    rintro _ w_30 ⟨v_27, rfl, R_28, hb_29⟩; refine ⟨_, rfl, ?_⟩
    replace R_28 := RepV.back R_28 W
    clear S; intro a S
    replace R1 := R1.step hb_29
    replace R_25 := R_25.step hb_29
    replace B_2 := B_2.step hb_29
    replace R_20 := R_20.step hb_29
    replace W := W.step hb_29
    obtain ⟨rfl, GR_28⟩ := RepV.str R_28
    obtain ⟨t_31, et_31, h⟩ := bindS h
    refine w_go S rfl (op_call (vs := [v_18, .int .i64 t_17.2, .string (strOfNums t_26)]) S rfl cb19 rfl rfl rfl (c19 (Kx K w.heap.size []) n w_30 (⟨t_17.1.xs, t_17.1.cap⟩ : Sl (Int)) _ (Ow.read R_20) t_17.2 GR_21 t_26 GR_28 et_31) ?_)
    rintro _ w_35 ⟨v_32, rfl, R_33, hb_34⟩; refine ⟨_, rfl, ?_⟩
    clear S; intro a S
    replace R1 := R1.step hb_34
    replace R_25 := R_25.step hb_34
    replace B_2 := B_2.step hb_34
    replace R_20 := R_20.step hb_34
    replace W := W.step hb_34
    obtain rfl := RepV.bool R_33
    refine wl_pure (l' := [(32, .bool (!t_31)), (31, .bool t_31), (30, .string (strOfNums t_26)), (29, v_24), (28, .int .i64 t_17.2), (27, v_18), (6, .int .i64 t_17.2), (5, v_18), (2, .pointer (some (⟨b_1, 0, .none⟩ : Addr))), (1, v1)]) S tys tys_ok 1 (by kernel_rfl) ?_
    clear S; intro a S
    refine wpList_nil ?_
    refine then_n ?_
    replace S := S.sub (l' := [(32, .bool (!t_31)), (6, .int .i64 t_17.2), (5, v_18), (1, v1)]) (by exact ⟨rfl, rfl, rfl, rfl, trivial⟩)
    refine wp_cond_split (S.eval (show ev _ _ = some (.bool (!t_31)) from rfl)) ?_ ?_
    · intro hc
      rw [if_pos hc] at h
      refine wp_seq ?_
      refine wp_region_lit ?_
      refine wl_pure (l' := [(4, .bool false), (32, .bool (!t_31)), (6, .int .i64 t_17.2), (5, v_18), (1, v1)]) S tys tys_ok 1 (by kernel_rfl) ?_
      clear S; intro a S
      refine wpList_nil ?_
      refine then_n ?_
      replace S := S.sub (l' := [(4, .bool false)]) (by exact ⟨rfl, trivial⟩)
      refine wp_ret ?_
      refine then_r ?_
      obtain rfl := Option.some.inj h
      exact b_ret1 S rfl rfl ⟨_, rfl, RepV.mkBool, W.below⟩
    · intro hc
      rw [if_neg (Bool.eq_false_iff.1 hc)] at h
      refine wp_skip ?_
      refine then_n ?_
      replace S := S.sub (l' := [(6, .int .i64 t_17.2), (5, v_18), (1, v1)]) (by exact ⟨rfl, rfl, rfl, trivial⟩)
      refine wp_seq ?_
      refine wp_seq ?_
      refine wp_region_lit ?_
      refine wl_pure (l' := [(34, v_18), (6, .int .i64 t_17.2), (5, v_18), (1, v1)]) S tys tys_ok 1 (by kernel_rfl) ?_
      clear S; intro a S
      have R_36 : RepV (.sl (.int .u8)) w_35 (Kx K w.heap.size [some b_1]) v_18 (⟨t_17.1.xs, t_17.1.cap⟩ : Sl (Int)) := R_20.pubAt W 0 rfl
      replace R1 : RepV (.sl (.int .u8)) w_35 (Kx K w.heap.size [some b_1]) v1 x1 := R1.lessAt 0
      replace B_2 : Bx (.st (.pair (.int .u8) (.pair (.int .u8) (.pair (.int .u8) (.sl .bool))))) 66 w_35 (Kx K w.heap.size [some b_1]) b_1 x0 := B_2.lessAt 0
      replace W : Wd w w_35 [some b_1] := W.lessAt 0
      obtain ⟨t_37, et_37, h⟩ := bindS h
      refine w_go S rfl (op_call (vs := [v_18]) S rfl cb29 rfl rfl rfl (c29 (Kx K w.heap.size [some b_1]) n w_35 (⟨t_17.1.xs, t_17.1.cap⟩ : Sl (Int)) _ R_36 et_37) ?_)
      rintro _ w_43 ⟨v_38, v_39, rfl, R_40, R_41, hb_42⟩; refine ⟨_, rfl, ?_⟩
      replace R_40 := RepV.back R_40 W
      replace R_41 := RepV.back R_41 W
      clear S; intro a S
      replace R_36 := R_36.step hb_42
      replace R1 := R1.step hb_42
      replace B_2 := B_2.step hb_42
      replace W := W.step hb_42
      obtain ⟨rfl, GR_41⟩ := RepV.int R_41
      refine wl_pure (l' := [(37, .int .i64 t_37.2), (36, v_38), (33, .tuple #[v_38, .int .i64 t_37.2]), (35, .tuple #[v_38, .int .i64 t_37.2]), (34, v_18), (6, .int .i64 t_17.2), (5, v_18), (1, v1)]) S tys tys_ok 3 (by kernel_rfl) ?_
      clear S; intro a S
      refine w_go S rfl (op_alloc (K := K) (n := w.heap.size) (L := [some b_1]) (t := (.st (.pair (.int .u8) (.pair (.int .u8) (.pair (.int .u8) (.sl .bool)))))) (y := (0, 0, 0, ⟨[], some 0⟩)) S rfl rfl rfl _ z66 (fun w K => ⟨[.int .u8 0], [.int .u8 0, .int .u8 0, .slice .none 0 0], rfl, ⟨rfl, by decide⟩, ⟨[.int .u8 0], [.int .u8 0, .slice .none 0 0], rfl, ⟨rfl, by decide⟩, ⟨[.int .u8 0], [.slice .none 0 0], rfl, ⟨rfl, by decide⟩, ⟨.none, 0, 0, rfl, rfl, Nat.le_refl _, by decide, fun k h => Option.some.inj h, .inl rfl⟩⟩⟩⟩) ?_)
      clear S; intro a w_46 b_44 hb_47 B_45 S
      replace R_36 := R_36.box hb_47
      replace R1 := R1.box hb_47
      replace R_40 := R_40.box hb_47
      replace B_2 := B_2.box hb_47
      replace W := W.box hb_47
      refine w_go S rfl (op_store (t' := (.st (.pair (.int .u8) (.pair (.int .u8) (.pair (.int .u8) (.sl .bool)))))) S rfl rfl ty66 rfl rfl rfl B_45 (by simp) Ln.whole R_40 ?_)
      intro w_48 hw_49 B_
      replace R_36 := R_36.wrote hw_49 (by simp)
      replace R1 := R1.wrote hw_49 (by simp)
      replace R_40 := R_40.wrote hw_49 (by simp)
      replace B_2 := B_2.wrote hw_49 (by simp) (W.bne (p := 1) (q := 0) (by decide) rfl rfl)
      replace W := W.wrote hw_49 (by simp)
      replace B_45 : Bx (.st (.pair (.int .u8) (.pair (.int .u8) (.pair (.int .u8) (.sl .bool))))) 66 w_48 (Kx K w.heap.size [some b_44, some b_1]) b_44 t_37.1 := B_; clear B_
      refine wl_pure (l' := [(8, .int .i64 t_37.2), (7, .pointer (some (⟨b_44, 0, .none⟩ : Addr))), (37, .int .i64 t_37.2), (36, v_38), (33, .tuple #[v_38, .int .i64 t_37.2]), (35, .tuple #[v_38, .int .i64 t_37.2]), (34, v_18), (6, .int .i64 t_17.2), (5, v_18), (1, v1)]) S tys tys_ok 1 (by kernel_rfl) ?_
      clear S; intro a S
      refine wpList_nil ?_
      refine then_n ?_
      replace S := S.sub (l' := [(8, .int .i64 t_37.2), (7, .pointer (some (⟨b_44, 0, .none⟩ : Addr))), (6, .int .i64 t_17.2), (5, v_18), (1, v1)]) (by exact ⟨rfl, rfl, rfl, rfl, rfl, trivial⟩)
      refine wp_seq ?_
      obtain ⟨q_50, eq_50, h⟩ := bindS h
      obtain ⟨t_54, q_59, HG_51⟩ : ∃ (t_54 : (List Int)) (q_59 : Bool) , ((t_17.2 == 0) = true → (p28 n t_37.1) = some t_54 ∧ (if (!(decide (t_54 = (⟨t_17.1.xs, t_17.1.cap⟩ : Sl (Int)).xs))) = false then some (t_37.2 != 0) else some true) = some q_59 ∧ q_59 = q_50) ∧ (¬ (t_17.2 == 0) = true → false = q_50) := by
        by_cases hc : (t_17.2 == 0) = true
        · rw [if_pos hc] at eq_50
          obtain ⟨t_54, et_54, eq_50⟩ := bindS eq_50
          obtain ⟨q_59, eq_59, eq_50⟩ := bindS eq_50
          exact ⟨t_54, q_59, ⟨fun _ => ⟨et_54, eq_59, Option.some.inj eq_50⟩, fun k_ => absurd hc k_⟩⟩
        · rw [if_neg hc] at eq_50
          exact ⟨default, default, ⟨fun k_ => absurd k_ hc, fun _ => Option.some.inj eq_50⟩⟩
      have HG_60 : ((t_17.2 == 0) = true → ((!(decide (t_54 = (⟨t_17.1.xs, t_17.1.cap⟩ : Sl (Int)).xs))) = false → (t_37.2 != 0) = q_59) ∧ (¬ (!(decide (t_54 = (⟨t_17.1.xs, t_17.1.cap⟩ : Sl (Int)).xs))) = false → true = q_59)) := by
        by_cases ho0 : (t_17.2 == 0) = true
        · skip
          have eq_59 := (HG_51.1 ho0).2.1
          by_cases hc : (!(decide (t_54 = (⟨t_17.1.xs, t_17.1.cap⟩ : Sl (Int)).xs))) = false
          · rw [if_pos hc] at eq_59
            exact fun _ => ⟨fun _ => Option.some.inj eq_59, fun k_ => absurd hc k_⟩
          · rw [if_neg hc] at eq_59
            exact fun _ => ⟨fun k_ => absurd k_ hc, fun _ => Option.some.inj eq_59⟩
        · exact fun k_ => absurd k_ ho0
      have hR : Rel (Kx K w.heap.size [some b_44, some b_1]) Bl := Bl.rel _
      refine wp_region_all hR [isI .i64 t_17.2, eqv (.bool (t_17.2 == 0)), eqv (.bool (t_17.2 == 0)), cndF (t_17.2 == 0) true (isRep (.st (.pair (.int .u8) (.pair (.int .u8) (.pair (.int .u8) (.sl .bool))))) (Kx K w.heap.size [some b_44, some b_1]) t_37.1), cndF (t_17.2 == 0) true (isS t_54), cndF (t_17.2 == 0) true (isRep (.sl (.int .u8)) (Kx K w.heap.size [some b_44, some b_1]) (⟨t_17.1.xs, t_17.1.cap⟩ : Sl (Int))), cndF (t_17.2 == 0) true (isS ((⟨t_17.1.xs, t_17.1.cap⟩ : Sl (Int)).xs)), cndF (t_17.2 == 0) true (eqv (.bool (!(decide (t_54 = (⟨t_17.1.xs, t_17.1.cap⟩ : Sl (Int)).xs))))), cndF (t_17.2 == 0) true (eqv (.bool (!(decide (t_54 = (⟨t_17.1.xs, t_17.1.cap⟩ : Sl (Int)).xs))))), cndF (t_17.2 == 0) true (cndF (!(decide (t_54 = (⟨t_17.1.xs, t_17.1.cap⟩ : Sl (Int)).xs))) false (isI .i64 t_37.2)), cndF (t_17.2 == 0) true (cndF (!(decide (t_54 = (⟨t_17.1.xs, t_17.1.cap⟩ : Sl (Int)).xs))) false (eqv (.bool (t_37.2 != 0)))), cndF (t_17.2 == 0) true (eqv (.bool q_59)), eqv (.bool q_50)] [[], [(0, 38)], [(1, 39)], [(2, 40)], [(3, 41), (2, 40)], [(2, 40)], [(5, 43), (2, 40)], [(4, 42), (6, 44), (2, 40)], [(7, 45), (2, 40)], [(8, 46)], [(9, 47), (8, 46)], [(8, 46), (10, 48), (2, 40)], [(2, 40), (11, 49)]] (by kernel_rfl) (by rw [S.size]; kernel_rfl) (by kernel_rfl) (by kernel_rfl) rfl ⟨stab_I, (stab_eqv _), (stab_eqv _), (stab_cnd (stab_rep hR)), (stab_cnd stab_S), (stab_cnd (stab_rep hR)), (stab_cnd stab_S), (stab_cnd (stab_eqv _)), (stab_cnd (stab_eqv _)), (stab_cnd (stab_cnd stab_I)), (stab_cnd (stab_cnd (stab_eqv _))), (stab_cnd (stab_eqv _)), (stab_eqv _), trivial⟩ ?_ ?_
      ·
        refine RunAll.cons (isI .i64 t_17.2) [] rfl rfl ?_ ?_
        · intro W_ hW
          have S1 := S
          refine fill_nil S1 ?_; clear S1; intro a_ S1
          have S0 := S.defers; replace S := S1; clear S1
          refine wl_pure (l' := [(38, .int .i64 t_17.2), (8, .int .i64 t_37.2), (7, .pointer (some (⟨b_44, 0, .none⟩ : Addr))), (6, .int .i64 t_17.2), (5, v_18), (1, v1)]) S tys tys_ok 1 (by kernel_rfl) ?_; clear S; intro a S
          refine wpList_nil ?_
          exact RPost.mk_ S rfl S0 ⟨rfl, GR_21⟩ (Below.refl _ _)
        refine RunAll.cons (eqv (.bool (t_17.2 == 0))) [(isI .i64 t_17.2, 38)] rfl rfl ?_ ?_
        · intro W_ hW
          have S1 := S
          rintro _ ⟨rfl, hF_61⟩
          replace S1 := S1.put (by decide : 38 < 176) (.int .i64 t_17.2)
          refine fill_nil S1 ?_; clear S1; intro a_ S1
          have S0 := S.defers; replace S := S1; clear S1
          refine wl_pure (l' := [(39, .bool (t_17.2 == 0)), (38, .int .i64 t_17.2), (8, .int .i64 t_37.2), (7, .pointer (some (⟨b_44, 0, .none⟩ : Addr))), (6, .int .i64 t_17.2), (5, v_18), (1, v1)]) S tys tys_ok 1 (by kernel_rfl) ?_; clear S; intro a S
          refine wpList_nil ?_
          exact RPost.mk_ S rfl S0 rfl (Below.refl _ _)
        refine RunAll.cons (eqv (.bool (t_17.2 == 0))) [(eqv (.bool (t_17.2 == 0)), 39)] rfl rfl ?_ ?_
        · intro W_ hW
          have S1 := S
          intro v_64 hF_63; obtain rfl : .bool (t_17.2 == 0) = v_64 := Eq.symm hF_63
          replace S1 := S1.put (by decide : 39 < 176) (.bool (t_17.2 == 0))
          refine fill_nil S1 ?_; clear S1; intro a_ S1
          have S0 := S.defers; replace S := S1; clear S1
          refine wl_pure (l' := [(40, .bool (t_17.2 == 0)), (39, .bool (t_17.2 == 0)), (8, .int .i64 t_37.2), (7, .pointer (some (⟨b_44, 0, .none⟩ : Addr))), (6, .int .i64 t_17.2), (5, v_18), (1, v1)]) S tys tys_ok 1 (by kernel_rfl) ?_; clear S; intro a S
          refine wpList_nil ?_
          exact RPost.mk_ S rfl S0 rfl (Below.refl _ _)
        refine RunAll.cons (cndF (t_17.2 == 0) true (isRep (.st (.pair (.int .u8) (.pair (.int .u8) (.pair (.int .u8) (.sl .bool))))) (Kx K w.heap.size [some b_44, some b_1]) t_37.1)) [(eqv (.bool (t_17.2 == 0)), 40)] rfl rfl ?_ ?_
        · intro W_ hW
          by_cases hc0 : (t_17.2 == 0) = true
          · have hl0 : (t_17.2 == 0) = true := hc0
            have S1 := S
            intro v_66 hF_65; obtain rfl : .bool (t_17.2 == 0) = v_66 := Eq.symm hF_65
            replace S1 := S1.put (by decide : 40 < 176) (.bool (t_17.2 == 0))
            refine fill_nil S1 ?_; clear S1; intro a_ S1
            replace B_45 := B_45.step hW
            rw [show (t_17.2 == 0) = true from hl0] at S1
            have S0 := S.defers; replace S := S1; clear S1
            obtain ⟨et_54, eq_59, _⟩ := (HG_51).1 hc0
            refine w_go S rfl (op_load (t := (.st (.pair (.int .u8) (.pair (.int .u8) (.pair (.int .u8) (.sl .bool)))))) (x := t_37.1) S rfl ty66 rfl rfl rfl B_45.at_ ?_)
            clear S; intro a v_67 R_68 S
            refine wpList_nil ?_
            exact RPost.mk_ S rfl S0 ⟨fun _ => R_68, fun k_ => absurd hc0 k_⟩ (Below.refl _ _)
          · have hl0 : (t_17.2 == 0) = false := Bool.eq_false_iff.2 hc0
            have S1 := S
            intro v_70 hF_69; obtain rfl : .bool (t_17.2 == 0) = v_70 := Eq.symm hF_69
            replace S1 := S1.put (by decide : 40 < 176) (.bool (t_17.2 == 0))
            refine fill_nil S1 ?_; clear S1; intro a_ S1
            rw [show (t_17.2 == 0) = false from hl0] at S1
            have S0 := S.defers; replace S := S1; clear S1
            refine wl_pure (l' := [(41, undef), (40, .bool false), (8, .int .i64 t_37.2), (7, .pointer (some (⟨b_44, 0, .none⟩ : Addr))), (6, .int .i64 t_17.2), (5, v_18), (1, v1)]) S tys tys_ok 1 (by kernel_rfl) ?_; clear S; intro a S
            refine wpList_nil ?_
            exact RPost.mk_ S rfl S0 ⟨fun k_ => absurd k_ hc0, fun _ => rfl⟩ (Below.refl _ _)
        refine RunAll.cons (cndF (t_17.2 == 0) true (isS t_54)) [(cndF (t_17.2 == 0) true (isRep (.st (.pair (.int .u8) (.pair (.int .u8) (.pair (.int .u8) (.sl .bool))))) (Kx K w.heap.size [some b_44, some b_1]) t_37.1), 41), (eqv (.bool (t_17.2 == 0)), 40)] rfl rfl ?_ ?_
        · intro W_ hW
          by_cases hc0 : (t_17.2 == 0) = true
          · have hl0 : (t_17.2 == 0) = true := hc0
            have S1 := S
            intro v_71 hF_72
            replace hF_72 := cndF.pos hF_72 hc0
            revert hF_72
            revert v_71
            intro v_74 hF_73; replace hF_73 : RepV _ _ _ _ _ := hF_73
            replace S1 := S1.put (by decide : 41 < 176) (v_74)
            intro v_76 hF_75; obtain rfl : .bool (t_17.2 == 0) = v_76 := Eq.symm hF_75
            replace S1 := S1.put (by decide : 40 < 176) (.bool (t_17.2 == 0))
            refine fill_nil S1 ?_; clear S1; intro a_ S1
            replace W := W.step hW
            rw [show (t_17.2 == 0) = true from hl0] at S1
            have S0 := S.defers; replace S := S1; clear S1
            obtain ⟨et_54, eq_59, _⟩ := (HG_51).1 hc0
            refine w_go S rfl (op_call (vs := [v_74]) S rfl cb28 rfl rfl rfl (c28 (Kx K w.heap.size [some b_44, some b_1]) n W_ t_37.1 _ hF_73 et_54) ?_)
            rintro _ w_80 ⟨v_77, rfl, R_78, hb_79⟩; refine ⟨_, rfl, ?_⟩
            replace R_78 := RepV.back R_78 W
            clear S; intro a S
            obtain ⟨rfl, GR_78⟩ := RepV.str R_78
            refine wpList_nil ?_
            exact RPost.mk_ S rfl S0 ⟨fun _ => ⟨rfl, GR_78⟩, fun k_ => absurd hc0 k_⟩ (hb_79)
          · have hl0 : (t_17.2 == 0) = false := Bool.eq_false_iff.2 hc0
            have S1 := S
            intro v_81 hF_82
            obtain rfl := cndF.neg hF_82 hc0
            replace S1 := S1.put (by decide : 41 < 176) (undef)
            intro v_84 hF_83; obtain rfl : .bool (t_17.2 == 0) = v_84 := Eq.symm hF_83
            replace S1 := S1.put (by decide : 40 < 176) (.bool (t_17.2 == 0))
            refine fill_nil S1 ?_; clear S1; intro a_ S1
            rw [show (t_17.2 == 0) = false from hl0] at S1
            have S0 := S.defers; replace S := S1; clear S1
            refine wl_pure (l' := [(42, undef), (40, .bool false), (41, undef), (8, .int .i64 t_37.2), (7, .pointer (some (⟨b_44, 0, .none⟩ : Addr))), (6, .int .i64 t_17.2), (5, v_18), (1, v1)]) S tys tys_ok 1 (by kernel_rfl) ?_; clear S; intro a S
            refine wpList_nil ?_
            exact RPost.mk_ S rfl S0 ⟨fun k_ => absurd k_ hc0, fun _ => rfl⟩ (Below.refl _ _)
        refine RunAll.cons (cndF (t_17.2 == 0) true (isRep (.sl (.int .u8)) (Kx K w.heap.size [some b_44, some b_1]) (⟨t_17.1.xs, t_17.1.cap⟩ : Sl (Int)))) [(eqv (.bool (t_17.2 == 0)), 40)] rfl rfl ?_ ?_
        · intro W_ hW
          by_cases hc0 : (t_17.2 == 0) = true
          · have hl0 : (t_17.2 == 0) = true := hc0
            have S1 := S
            intro v_86 hF_85; obtain rfl : .bool (t_17.2 == 0) = v_86 := Eq.symm hF_85
            replace S1 := S1.put (by decide : 40 < 176) (.bool (t_17.2 == 0))
            refine fill_nil S1 ?_; clear S1; intro a_ S1
            replace R_36 := R_36.step hW
            rw [show (t_17.2 == 0) = true from hl0] at S1
            have S0 := S.defers; replace S := S1; clear S1
            refine wl_pure (l' := [(43, v_18), (40, .bool true), (8, .int .i64 t_37.2), (7, .pointer (some (⟨b_44, 0, .none⟩ : Addr))), (6, .int .i64 t_17.2), (5, v_18), (1, v1)]) S tys tys_ok 1 (by kernel_rfl) ?_; clear S; intro a S
            refine wpList_nil ?_
            exact RPost.mk_ S rfl S0 ⟨fun _ => R_36, fun k_ => absurd hc0 k_⟩ (Below.refl _ _)
          · have hl0 : (t_17.2 == 0) = false := Bool.eq_false_iff.2 hc0
            have S1 := S
            intro v_88 hF_87; obtain rfl : .bool (t_17.2 == 0) = v_88 := Eq.symm hF_87
            replace S1 := S1.put (by decide : 40 < 176) (.bool (t_17.2 == 0))
            refine fill_nil S1 ?_; clear S1; intro a_ S1
            rw [show (t_17.2 == 0) = false from hl0] at S1
            have S0 := S.defers; replace S := S1; clear S1
            refine wl_pure (l' := [(43, undef), (40, .bool false), (8, .int .i64 t_37.2), (7, .pointer (some (⟨b_44, 0, .none⟩ : Addr))), (6, .int .i64 t_17.2), (5, v_18), (1, v1)]) S tys tys_ok 1 (by kernel_rfl) ?_; clear S; intro a S
            refine wpList_nil ?_
            exact RPost.mk_ S rfl S0 ⟨fun k_ => absurd k_ hc0, fun _ => rfl⟩ (Below.refl _ _)
        refine RunAll.cons (cndF (t_17.2 == 0) true (isS ((⟨t_17.1.xs, t_17.1.cap⟩ : Sl (Int)).xs))) [(cndF (t_17.2 == 0) true (isRep (.sl (.int .u8)) (Kx K w.heap.size [some b_44, some b_1]) (⟨t_17.1.xs, t_17.1.cap⟩ : Sl (Int))), 43), (eqv (.bool (t_17.2 == 0)), 40)] rfl rfl ?_ ?_
        · intro W_ hW
          by_cases hc0 : (t_17.2 == 0) = true
          · have hl0 : (t_17.2 == 0) = true := hc0
            have S1 := S
            intro v_89 hF_90
            replace hF_90 := cndF.pos hF_90 hc0
            revert hF_90
            revert v_89
            intro v_92 hF_91; replace hF_91 : RepV _ _ _ _ _ := hF_91
            replace S1 := S1.put (by decide : 43 < 176) (v_92)
            intro v_94 hF_93; obtain rfl : .bool (t_17.2 == 0) = v_94 := Eq.symm hF_93
            replace S1 := S1.put (by decide : 40 < 176) (.bool (t_17.2 == 0))
            refine fill_nil S1 ?_; clear S1; intro a_ S1
            replace W := W.step hW
            rw [show (t_17.2 == 0) = true from hl0] at S1
            have S0 := S.defers; replace S := S1; clear S1
            obtain ⟨et_54, eq_59, _⟩ := (HG_51).1 hc0
            refine w_go S rfl (op_str (K := _) S rfl ty23 ty9 rfl rfl rfl hF_91 ?_)
            clear S; intro a S
            refine wpList_nil ?_
            exact RPost.mk_ S rfl S0 ⟨fun _ => ⟨rfl, hF_91.byt⟩, fun k_ => absurd hc0 k_⟩ (Below.refl _ _)
          · have hl0 : (t_17.2 == 0) = false := Bool.eq_false_iff.2 hc0
            have S1 := S
            intro v_95 hF_96
            obtain rfl := cndF.neg hF_96 hc0
            replace S1 := S1.put (by decide : 43 < 176) (undef)
            intro v_98 hF_97; obtain rfl : .bool (t_17.2 == 0) = v_98 := Eq.symm hF_97
            replace S1 := S1.put (by decide : 40 < 176) (.bool (t_17.2 == 0))
            refine fill_nil S1 ?_; clear S1; intro a_ S1
            rw [show (t_17.2 == 0) = false from hl0] at S1
            have S0 := S.defers; replace S := S1; clear S1
            refine wl_pure (l' := [(44, undef), (40, .bool false), (43, undef), (8, .int .i64 t_37.2), (7, .pointer (some (⟨b_44, 0, .none⟩ : Addr))), (6, .int .i64 t_17.2), (5, v_18), (1, v1)]) S tys tys_ok 1 (by kernel_rfl) ?_; clear S; intro a S
            refine wpList_nil ?_
            exact RPost.mk_ S rfl S0 ⟨fun k_ => absurd k_ hc0, fun _ => rfl⟩ (Below.refl _ _)
        refine RunAll.cons (cndF (t_17.2 == 0) true (eqv (.bool (!(decide (t_54 = (⟨t_17.1.xs, t_17.1.cap⟩ : Sl (Int)).xs)))))) [(cndF (t_17.2 == 0) true (isS t_54), 42), (cndF (t_17.2 == 0) true (isS ((⟨t_17.1.xs, t_17.1.cap⟩ : Sl (Int)).xs)), 44), (eqv (.bool (t_17.2 == 0)), 40)] rfl rfl ?_ ?_
        · intro W_ hW
          by_cases hc0 : (t_17.2 == 0) = true
          · have hl0 : (t_17.2 == 0) = true := hc0
            have S1 := S
            intro v_99 hF_100
            replace hF_100 := cndF.pos hF_100 hc0
            revert hF_100
            revert v_99
            rintro _ ⟨rfl, hF_101⟩
            replace S1 := S1.put (by decide : 42 < 176) (.string (strOfNums t_54))
            intro v_103 hF_104
            replace hF_104 := cndF.pos hF_104 hc0
            revert hF_104
            revert v_103
            rintro _ ⟨rfl, hF_105⟩
            replace S1 := S1.put (by decide : 44 < 176) (.string (strOfNums ((⟨t_17.1.xs, t_17.1.cap⟩ : Sl (Int)).xs)))
            intro v_108 hF_107; obtain rfl : .bool (t_17.2 == 0) = v_108 := Eq.symm hF_107
            replace S1 := S1.put (by decide : 40 < 176) (.bool (t_17.2 == 0))
            refine fill_nil S1 ?_; clear S1; intro a_ S1
            rw [show (t_17.2 == 0) = true from hl0] at S1
            have S0 := S.defers; replace S := S1; clear S1
            obtain ⟨et_54, eq_59, _⟩ := (HG_51).1 hc0
            refine w_go S rfl (op_strne S rfl rfl rfl rfl rfl (hF_101).1 (hF_105).1 ?_)
            clear S; intro a S
            refine wpList_nil ?_
            exact RPost.mk_ S rfl S0 ⟨fun _ => rfl, fun k_ => absurd hc0 k_⟩ (Below.refl _ _)
          · have hl0 : (t_17.2 == 0) = false := Bool.eq_false_iff.2 hc0
            have S1 := S
            intro v_109 hF_110
            obtain rfl := cndF.neg hF_110 hc0
            replace S1 := S1.put (by decide : 42 < 176) (undef)
            intro v_111 hF_112
            obtain rfl := cndF.neg hF_112 hc0
            replace S1 := S1.put (by decide : 44 < 176) (undef)
            intro v_114 hF_113; obtain rfl : .bool (t_17.2 == 0) = v_114 := Eq.symm hF_113
            replace S1 := S1.put (by decide : 40 < 176) (.bool (t_17.2 == 0))
            refine fill_nil S1 ?_; clear S1; intro a_ S1
            rw [show (t_17.2 == 0) = false from hl0] at S1
            have S0 := S.defers; replace S := S1; clear S1
            refine wl_pure (l' := [(45, undef), (40, .bool false), (44, undef), (42, undef), (8, .int .i64 t_37.2), (7, .pointer (some (⟨b_44, 0, .none⟩ : Addr))), (6, .int .i64 t_17.2), (5, v_18), (1, v1)]) S tys tys_ok 1 (by kernel_rfl) ?_; clear S; intro a S
            refine wpList_nil ?_
            exact RPost.mk_ S rfl S0 ⟨fun k_ => absurd k_ hc0, fun _ => rfl⟩ (Below.refl _ _)
        refine RunAll.cons (cndF (t_17.2 == 0) true (eqv (.bool (!(decide (t_54 = (⟨t_17.1.xs, t_17.1.cap⟩ : Sl (Int)).xs)))))) [(cndF (t_17.2 == 0) true (eqv (.bool (!(decide (t_54 = (⟨t_17.1.xs, t_17.1.cap⟩ : Sl (Int)).xs))))), 45), (eqv (.bool (t_17.2 == 0)), 40)] rfl rfl ?_ ?_
        · intro W_ hW
          by_cases hc0 : (t_17.2 == 0) = true
          · have hl0 : (t_17.2 == 0) = true := hc0
            have S1 := S
            intro v_115 hF_116
            replace hF_116 := cndF.pos hF_116 hc0
            revert hF_116
            revert v_115
            intro v_118 hF_117; obtain rfl : .bool (!(decide (t_54 = (⟨t_17.1.xs, t_17.1.cap⟩ : Sl (Int)).xs))) = v_118 := Eq.symm hF_117
            replace S1 := S1.put (by decide : 45 < 176) (.bool (!(decide (t_54 = (⟨t_17.1.xs, t_17.1.cap⟩ : Sl (Int)).xs))))
            intro v_120 hF_119; obtain rfl : .bool (t_17.2 == 0) = v_120 := Eq.symm hF_119
            replace S1 := S1.put (by decide : 40 < 176) (.bool (t_17.2 == 0))
            refine fill_nil S1 ?_; clear S1; intro a_ S1
            rw [show (t_17.2 == 0) = true from hl0] at S1
            have S0 := S.defers; replace S := S1; clear S1
            refine wl_pure (l' := [(46, .bool (!(decide (t_54 = (⟨t_17.1.xs, t_17.1.cap⟩ : Sl (Int)).xs)))), (40, .bool true), (45, .bool (!(decide (t_54 = (⟨t_17.1.xs, t_17.1.cap⟩ : Sl (Int)).xs)))), (8, .int .i64 t_37.2), (7, .pointer (some (⟨b_44, 0, .none⟩ : Addr))), (6, .int .i64 t_17.2), (5, v_18), (1, v1)]) S tys tys_ok 1 (by kernel_rfl) ?_; clear S; intro a S
            refine wpList_nil ?_
            exact RPost.mk_ S rfl S0 ⟨fun _ => rfl, fun k_ => absurd hc0 k_⟩ (Below.refl _ _)
          · have hl0 : (t_17.2 == 0) = false := Bool.eq_false_iff.2 hc0
            have S1 := S
            intro v_121 hF_122
            obtain rfl := cndF.neg hF_122 hc0
            replace S1 := S1.put (by decide : 45 < 176) (undef)
            intro v_124 hF_123; obtain rfl : .bool (t_17.2 == 0) = v_124 := Eq.symm hF_123
            replace S1 := S1.put (by decide : 40 < 176) (.bool (t_17.2 == 0))
            refine fill_nil S1 ?_; clear S1; intro a_ S1
            rw [show (t_17.2 == 0) = false from hl0] at S1
            have S0 := S.defers; replace S := S1; clear S1
            refine wl_pure (l' := [(46, undef), (40, .bool false), (45, undef), (8, .int .i64 t_37.2), (7, .pointer (some (⟨b_44, 0, .none⟩ : Addr))), (6, .int .i64 t_17.2), (5, v_18), (1, v1)]) S tys tys_ok 1 (by kernel_rfl) ?_; clear S; intro a S
            refine wpList_nil ?_
            exact RPost.mk_ S rfl S0 ⟨fun k_ => absurd k_ hc0, fun _ => rfl⟩ (Below.refl _ _)
        refine RunAll.cons (cndF (t_17.2 == 0) true (cndF (!(decide (t_54 = (⟨t_17.1.xs, t_17.1.cap⟩ : Sl (Int)).xs))) false (isI .i64 t_37.2))) [(cndF (t_17.2 == 0) true (eqv (.bool (!(decide (t_54 = (⟨t_17.1.xs, t_17.1.cap⟩ : Sl (Int)).xs))))), 46)] rfl rfl ?_ ?_
        · intro W_ hW
          by_cases hc0 : (t_17.2 == 0) = true
          · have hl0 : (t_17.2 == 0) = true := hc0
            by_cases hc1 : (!(decide (t_54 = (⟨t_17.1.xs, t_17.1.cap⟩ : Sl (Int)).xs))) = false
            · have hl1 : (!(decide (t_54 = (⟨t_17.1.xs, t_17.1.cap⟩ : Sl (Int)).xs))) = false := hc1
              have S1 := S
              intro v_125 hF_126
              replace hF_126 := cndF.pos hF_126 hc0
              revert hF_126
              revert v_125
              intro v_128 hF_127; obtain rfl : .bool (!(decide (t_54 = (⟨t_17.1.xs, t_17.1.cap⟩ : Sl (Int)).xs))) = v_128 := Eq.symm hF_127
              replace S1 := S1.put (by decide : 46 < 176) (.bool (!(decide (t_54 = (⟨t_17.1.xs, t_17.1.cap⟩ : Sl (Int)).xs))))
              refine fill_nil S1 ?_; clear S1; intro a_ S1
              rw [show (!(decide (t_54 = (⟨t_17.1.xs, t_17.1.cap⟩ : Sl (Int)).xs))) = false from hl1] at S1
              have S0 := S.defers; replace S := S1; clear S1
              refine wl_pure (l' := [(47, .int .i64 t_37.2), (46, .bool false), (8, .int .i64 t_37.2), (7, .pointer (some (⟨b_44, 0, .none⟩ : Addr))), (6, .int .i64 t_17.2), (5, v_18), (1, v1)]) S tys tys_ok 1 (by kernel_rfl) ?_; clear S; intro a S
              refine wpList_nil ?_
              exact RPost.mk_ S rfl S0 ⟨fun _ => ⟨fun _ => ⟨rfl, GR_41⟩, fun k_ => absurd hc1 k_⟩, fun k_ => absurd hc0 k_⟩ (Below.refl _ _)
            · have hl1 : (!(decide (t_54 = (⟨t_17.1.xs, t_17.1.cap⟩ : Sl (Int)).xs))) = true := (by simpa using hc1)
              have S1 := S
              intro v_129 hF_130
              replace hF_130 := cndF.pos hF_130 hc0
              revert hF_130
              revert v_129
              intro v_132 hF_131; obtain rfl : .bool (!(decide (t_54 = (⟨t_17.1.xs, t_17.1.cap⟩ : Sl (Int)).xs))) = v_132 := Eq.symm hF_131
              replace S1 := S1.put (by decide : 46 < 176) (.bool (!(decide (t_54 = (⟨t_17.1.xs, t_17.1.cap⟩ : Sl (Int)).xs))))
              refine fill_nil S1 ?_; clear S1; intro a_ S1
              rw [show (!(decide (t_54 = (⟨t_17.1.xs, t_17.1.cap⟩ : Sl (Int)).xs))) = true from hl1] at S1
              have S0 := S.defers; replace S := S1; clear S1
              refine wl_pure (l' := [(47, undef), (46, .bool true), (8, .int .i64 t_37.2), (7, .pointer (some (⟨b_44, 0, .none⟩ : Addr))), (6, .int .i64 t_17.2), (5, v_18), (1, v1)]) S tys tys_ok 1 (by kernel_rfl) ?_; clear S; intro a S
              refine wpList_nil ?_
              exact RPost.mk_ S rfl S0 ⟨fun _ => ⟨fun k_ => absurd k_ hc1, fun _ => rfl⟩, fun k_ => absurd hc0 k_⟩ (Below.refl _ _)
          · have hl0 : (t_17.2 == 0) = false := Bool.eq_false_iff.2 hc0
            have S1 := S
            intro v_133 hF_134
            obtain rfl := cndF.neg hF_134 hc0
            replace S1 := S1.put (by decide : 46 < 176) (undef)
            refine fill_nil S1 ?_; clear S1; intro a_ S1
            have S0 := S.defers; replace S := S1; clear S1
            refine wl_pure (l' := [(47, undef), (46, undef), (8, .int .i64 t_37.2), (7, .pointer (some (⟨b_44, 0, .none⟩ : Addr))), (6, .int .i64 t_17.2), (5, v_18), (1, v1)]) S tys tys_ok 1 (by kernel_rfl) ?_; clear S; intro a S
            refine wpList_nil ?_
            exact RPost.mk_ S rfl S0 ⟨fun k_ => absurd k_ hc0, fun _ => rfl⟩ (Below.refl _ _)
        refine RunAll.cons (cndF (t_17.2 == 0) true (cndF (!(decide (t_54 = (⟨t_17.1.xs, t_17.1.cap⟩ : Sl (Int)).xs))) false (eqv (.bool (t_37.2 != 0))))) [(cndF (t_17.2 == 0) true (cndF (!(decide (t_54 = (⟨t_17.1.xs, t_17.1.cap⟩ : Sl (Int)).xs))) false (isI .i64 t_37.2)), 47), (cndF (t_17.2 == 0) true (eqv (.bool (!(decide (t_54 = (⟨t_17.1.xs, t_17.1.cap⟩ : Sl (Int)).xs))))), 46)] rfl rfl ?_ ?_
        · intro W_ hW
          by_cases hc0 : (t_17.2 == 0) = true
          · have hl0 : (t_17.2 == 0) = true := hc0
            by_cases hc1 : (!(decide (t_54 = (⟨t_17.1.xs, t_17.1.cap⟩ : Sl (Int)).xs))) = false
            · have hl1 : (!(decide (t_54 = (⟨t_17.1.xs, t_17.1.cap⟩ : Sl (Int)).xs))) = false := hc1
              have S1 := S
              intro v_135 hF_136
              replace hF_136 := cndF.pos hF_136 hc0
              replace hF_136 := cndF.pos hF_136 hc1
              revert hF_136
              revert v_135
              rintro _ ⟨rfl, hF_137⟩
              replace S1 := S1.put (by decide : 47 < 176) (.int .i64 t_37.2)
              intro v_139 hF_140
              replace hF_140 := cndF.pos hF_140 hc0
              revert hF_140
              revert v_139
              intro v_142 hF_141; obtain rfl : .bool (!(decide (t_54 = (⟨t_17.1.xs, t_17.1.cap⟩ : Sl (Int)).xs))) = v_142 := Eq.symm hF_141
              replace S1 := S1.put (by decide : 46 < 176) (.bool (!(decide (t_54 = (⟨t_17.1.xs, t_17.1.cap⟩ : Sl (Int)).xs))))
              refine fill_nil S1 ?_; clear S1; intro a_ S1
              rw [show (!(decide (t_54 = (⟨t_17.1.xs, t_17.1.cap⟩ : Sl (Int)).xs))) = false from hl1] at S1
              have S0 := S.defers; replace S := S1; clear S1
              refine wl_pure (l' := [(48, .bool (t_37.2 != 0)), (46, .bool false), (47, .int .i64 t_37.2), (8, .int .i64 t_37.2), (7, .pointer (some (⟨b_44, 0, .none⟩ : Addr))), (6, .int .i64 t_17.2), (5, v_18), (1, v1)]) S tys tys_ok 1 (by kernel_rfl) ?_; clear S; intro a S
              refine wpList_nil ?_
              exact RPost.mk_ S rfl S0 ⟨fun _ => ⟨fun _ => rfl, fun k_ => absurd hc1 k_⟩, fun k_ => absurd hc0 k_⟩ (Below.refl _ _)
            · have hl1 : (!(decide (t_54 = (⟨t_17.1.xs, t_17.1.cap⟩ : Sl (Int)).xs))) = true := (by simpa using hc1)
              have S1 := S
              intro v_143 hF_144
              replace hF_144 := cndF.pos hF_144 hc0
              obtain rfl := cndF.neg hF_144 hc1
              replace S1 := S1.put (by decide : 47 < 176) (undef)
              intro v_145 hF_146
              replace hF_146 := cndF.pos hF_146 hc0
              revert hF_146
              revert v_145
              intro v_148 hF_147; obtain rfl : .bool (!(decide (t_54 = (⟨t_17.1.xs, t_17.1.cap⟩ : Sl (Int)).xs))) = v_148 := Eq.symm hF_147
              replace S1 := S1.put (by decide : 46 < 176) (.bool (!(decide (t_54 = (⟨t_17.1.xs, t_17.1.cap⟩ : Sl (Int)).xs))))
              refine fill_nil S1 ?_; clear S1; intro a_ S1
              rw [show (!(decide (t_54 = (⟨t_17.1.xs, t_17.1.cap⟩ : Sl (Int)).xs))) = true from hl1] at S1
              have S0 := S.defers; replace S := S1; clear S1
              refine wl_pure (l' := [(48, undef), (46, .bool true), (47, undef), (8, .int .i64 t_37.2), (7, .pointer (some (⟨b_44, 0, .none⟩ : Addr))), (6, .int .i64 t_17.2), (5, v_18), (1, v1)]) S tys tys_ok 1 (by kernel_rfl) ?_; clear S; intro a S
              refine wpList_nil ?_
              exact RPost.mk_ S rfl S0 ⟨fun _ => ⟨fun k_ => absurd k_ hc1, fun _ => rfl⟩, fun k_ => absurd hc0 k_⟩ (Below.refl _ _)
          · have hl0 : (t_17.2 == 0) = false := Bool.eq_false_iff.2 hc0
            have S1 := S
            intro v_149 hF_150
            obtain rfl := cndF.neg hF_150 hc0
            replace S1 := S1.put (by decide : 47 < 176) (undef)
            intro v_151 hF_152
            obtain rfl := cndF.neg hF_152 hc0
            replace S1 := S1.put (by decide : 46 < 176) (undef)
            refine fill_nil S1 ?_; clear S1; intro a_ S1
            have S0 := S.defers; replace S := S1; clear S1
            refine wl_pure (l' := [(48, undef), (46, undef), (47, undef), (8, .int .i64 t_37.2), (7, .pointer (some (⟨b_44, 0, .none⟩ : Addr))), (6, .int .i64 t_17.2), (5, v_18), (1, v1)]) S tys tys_ok 1 (by kernel_rfl) ?_; clear S; intro a S
            refine wpList_nil ?_
            exact RPost.mk_ S rfl S0 ⟨fun k_ => absurd k_ hc0, fun _ => rfl⟩ (Below.refl _ _)
        refine RunAll.cons (cndF (t_17.2 == 0) true (eqv (.bool q_59))) [(cndF (t_17.2 == 0) true (eqv (.bool (!(decide (t_54 = (⟨t_17.1.xs, t_17.1.cap⟩ : Sl (Int)).xs))))), 46), (cndF (t_17.2 == 0) true (cndF (!(decide (t_54 = (⟨t_17.1.xs, t_17.1.cap⟩ : Sl (Int)).xs))) false (eqv (.bool (t_37.2 != 0)))), 48), (eqv (.bool (t_17.2 == 0)), 40)] rfl rfl ?_ ?_
        · intro W_ hW
          by_cases hc0 : (t_17.2 == 0) = true
          · have hl0 : (t_17.2 == 0) = true := hc0
            by_cases hc1 : (!(decide (t_54 = (⟨t_17.1.xs, t_17.1.cap⟩ : Sl (Int)).xs))) = false
            · have hl1 : (!(decide (t_54 = (⟨t_17.1.xs, t_17.1.cap⟩ : Sl (Int)).xs))) = false := hc1
              have S1 := S
              intro v_153 hF_154
              replace hF_154 := cndF.pos hF_154 hc0
              revert hF_154
              revert v_153
              intro v_156 hF_155; obtain rfl : .bool (!(decide (t_54 = (⟨t_17.1.xs, t_17.1.cap⟩ : Sl (Int)).xs))) = v_156 := Eq.symm hF_155
              replace S1 := S1.put (by decide : 46 < 176) (.bool (!(decide (t_54 = (⟨t_17.1.xs, t_17.1.cap⟩ : Sl (Int)).xs))))
              intro v_157 hF_158
              replace hF_158 := cndF.pos hF_158 hc0
              replace hF_158 := cndF.pos hF_158 hc1
              revert hF_158
              revert v_157
              intro v_160 hF_159; obtain rfl : .bool (t_37.2 != 0) = v_160 := Eq.symm hF_159
              replace S1 := S1.put (by decide : 48 < 176) (.bool (t_37.2 != 0))
              intro v_162 hF_161; obtain rfl : .bool (t_17.2 == 0) = v_162 := Eq.symm hF_161
              replace S1 := S1.put (by decide : 40 < 176) (.bool (t_17.2 == 0))
              refine fill_nil S1 ?_; clear S1; intro a_ S1
              rw [show (t_17.2 == 0) = true from hl0] at S1
              rw [show (!(decide (t_54 = (⟨t_17.1.xs, t_17.1.cap⟩ : Sl (Int)).xs))) = false from hl1] at S1
              have S0 := S.defers; replace S := S1; clear S1
              refine wl_pure (l' := [(49, .bool (t_37.2 != 0)), (40, .bool true), (48, .bool (t_37.2 != 0)), (46, .bool false), (8, .int .i64 t_37.2), (7, .pointer (some (⟨b_44, 0, .none⟩ : Addr))), (6, .int .i64 t_17.2), (5, v_18), (1, v1)]) S tys tys_ok 1 (by kernel_rfl) ?_; clear S; intro a S
              refine wpList_nil ?_
              exact RPost.mk_ S rfl S0 ⟨fun _ => (congrArg Value.bool ((HG_60 hc0).1 hc1)), fun k_ => absurd hc0 k_⟩ (Below.refl _ _)
            · have hl1 : (!(decide (t_54 = (⟨t_17.1.xs, t_17.1.cap⟩ : Sl (Int)).xs))) = true := (by simpa using hc1)
              have S1 := S
              intro v_163 hF_164
              replace hF_164 := cndF.pos hF_164 hc0
              revert hF_164
              revert v_163
              intro v_166 hF_165; obtain rfl : .bool (!(decide (t_54 = (⟨t_17.1.xs, t_17.1.cap⟩ : Sl (Int)).xs))) = v_166 := Eq.symm hF_165
              replace S1 := S1.put (by decide : 46 < 176) (.bool (!(decide (t_54 = (⟨t_17.1.xs, t_17.1.cap⟩ : Sl (Int)).xs))))
              intro v_167 hF_168
              replace hF_168 := cndF.pos hF_168 hc0
              obtain rfl := cndF.neg hF_168 hc1
              replace S1 := S1.put (by decide : 48 < 176) (undef)
              intro v_170 hF_169; obtain rfl : .bool (t_17.2 == 0) = v_170 := Eq.symm hF_169
              replace S1 := S1.put (by decide : 40 < 176) (.bool (t_17.2 == 0))
              refine fill_nil S1 ?_; clear S1; intro a_ S1
              rw [show (t_17.2 == 0) = true from hl0] at S1
              rw [show (!(decide (t_54 = (⟨t_17.1.xs, t_17.1.cap⟩ : Sl (Int)).xs))) = true from hl1] at S1
              have S0 := S.defers; replace S := S1; clear S1
              refine wl_pure (l' := [(49, .bool true), (40, .bool true), (48, undef), (46, .bool true), (8, .int .i64 t_37.2), (7, .pointer (some (⟨b_44, 0, .none⟩ : Addr))), (6, .int .i64 t_17.2), (5, v_18), (1, v1)]) S tys tys_ok 1 (by kernel_rfl) ?_; clear S; intro a S
              refine wpList_nil ?_
              exact RPost.mk_ S rfl S0 ⟨fun _ => (congrArg Value.bool ((HG_60 hc0).2 hc1)), fun k_ => absurd hc0 k_⟩ (Below.refl _ _)
          · have hl0 : (t_17.2 == 0) = false := Bool.eq_false_iff.2 hc0
            have S1 := S
            intro v_171 hF_172
            obtain rfl := cndF.neg hF_172 hc0
            replace S1 := S1.put (by decide : 46 < 176) (undef)
            intro v_173 hF_174
            obtain rfl := cndF.neg hF_174 hc0
            replace S1 := S1.put (by decide : 48 < 176) (undef)
            intro v_176 hF_175; obtain rfl : .bool (t_17.2 == 0) = v_176 := Eq.symm hF_175
            replace S1 := S1.put (by decide : 40 < 176) (.bool (t_17.2 == 0))
            refine fill_nil S1 ?_; clear S1; intro a_ S1
            rw [show (t_17.2 == 0) = false from hl0] at S1
            have S0 := S.defers; replace S := S1; clear S1
            refine wl_pure (l' := [(49, undef), (40, .bool false), (48, undef), (46, undef), (8, .int .i64 t_37.2), (7, .pointer (some (⟨b_44, 0, .none⟩ : Addr))), (6, .int .i64 t_17.2), (5, v_18), (1, v1)]) S tys tys_ok 1 (by kernel_rfl) ?_; clear S; intro a S
            refine wpList_nil ?_
            exact RPost.mk_ S rfl S0 ⟨fun k_ => absurd k_ hc0, fun _ => rfl⟩ (Below.refl _ _)
        refine RunAll.cons (eqv (.bool q_50)) [(eqv (.bool (t_17.2 == 0)), 40), (cndF (t_17.2 == 0) true (eqv (.bool q_59)), 49)] rfl rfl ?_ ?_
        · intro W_ hW
          by_cases hc0 : (t_17.2 == 0) = true
          · have hl0 : (t_17.2 == 0) = true := hc0
            have S1 := S
            intro v_178 hF_177; obtain rfl : .bool (t_17.2 == 0) = v_178 := Eq.symm hF_177
            replace S1 := S1.put (by decide : 40 < 176) (.bool (t_17.2 == 0))
            intro v_179 hF_180
            replace hF_180 := cndF.pos hF_180 hc0
            revert hF_180
            revert v_179
            intro v_182 hF_181; obtain rfl : .bool q_59 = v_182 := Eq.symm hF_181
            replace S1 := S1.put (by decide : 49 < 176) (.bool q_59)
            refine fill_nil S1 ?_; clear S1; intro a_ S1
            rw [show (t_17.2 == 0) = true from hl0] at S1
            have S0 := S.defers; replace S := S1; clear S1
            refine wl_pure (l' := [(50, .bool q_59), (49, .bool q_59), (40, .bool true), (8, .int .i64 t_37.2), (7, .pointer (some (⟨b_44, 0, .none⟩ : Addr))), (6, .int .i64 t_17.2), (5, v_18), (1, v1)]) S tys tys_ok 1 (by kernel_rfl) ?_; clear S; intro a S
            refine wpList_nil ?_
            exact RPost.mk_ S rfl S0 (congrArg Value.bool ((HG_51).1 hc0).2.2) (Below.refl _ _)
          · have hl0 : (t_17.2 == 0) = false := Bool.eq_false_iff.2 hc0
            have S1 := S
            intro v_184 hF_183; obtain rfl : .bool (t_17.2 == 0) = v_184 := Eq.symm hF_183
            replace S1 := S1.put (by decide : 40 < 176) (.bool (t_17.2 == 0))
            intro v_185 hF_186
            obtain rfl := cndF.neg hF_186 hc0
            replace S1 := S1.put (by decide : 49 < 176) (undef)
            refine fill_nil S1 ?_; clear S1; intro a_ S1
            rw [show (t_17.2 == 0) = false from hl0] at S1
            have S0 := S.defers; replace S := S1; clear S1
            refine wl_pure (l' := [(50, .bool false), (49, undef), (40, .bool false), (8, .int .i64 t_37.2), (7, .pointer (some (⟨b_44, 0, .none⟩ : Addr))), (6, .int .i64 t_17.2), (5, v_18), (1, v1)]) S tys tys_ok 1 (by kernel_rfl) ?_; clear S; intro a S
            refine wpList_nil ?_
            exact RPost.mk_ S rfl S0 (congrArg Value.bool ((HG_51).2 hc0)) (Below.refl _ _)
        exact trivial
      intro w_187 hb_188
      refine EndE.some_ rfl ?_
      rintro _ ⟨rfl, hF_189⟩
      replace S := S.put (by decide : 38 < 176) (.int .i64 t_17.2)
      refine EndE.some_ rfl ?_
      intro v_192 hF_191; obtain rfl : .bool (t_17.2 == 0) = v_192 := Eq.symm hF_191
      replace S := S.put (by decide : 39 < 176) (.bool (t_17.2 == 0))
      refine EndE.some_ rfl ?_
      intro v_194 hF_193; obtain rfl : .bool (t_17.2 == 0) = v_194 := Eq.symm hF_193
      replace S := S.put (by decide : 40 < 176) (.bool (t_17.2 == 0))
      refine EndE.some_ rfl ?_
      intro v_195 _
      replace S := S.put (by decide : 41 < 176) (v_195)
      refine EndE.some_ rfl ?_
      intro v_196 _
      replace S := S.put (by decide : 42 < 176) (v_196)
      refine EndE.some_ rfl ?_
      intro v_197 _
      replace S := S.put (by decide : 43 < 176) (v_197)
      refine EndE.some_ rfl ?_
      intro v_198 _
      replace S := S.put (by decide : 44 < 176) (v_198)
      refine EndE.some_ rfl ?_
      intro v_199 _
      replace S := S.put (by decide : 45 < 176) (v_199)
      refine EndE.some_ rfl ?_
      intro v_200 _
      replace S := S.put (by decide : 46 < 176) (v_200)
      refine EndE.some_ rfl ?_
      intro v_201 _
      replace S := S.put (by decide : 47 < 176) (v_201)
      refine EndE.some_ rfl ?_
      intro v_202 _
      replace S := S.put (by decide : 48 < 176) (v_202)
      refine EndE.some_ rfl ?_
      intro v_203 _
      replace S := S.put (by decide : 49 < 176) (v_203)
      refine EndE.some_ rfl ?_
      intro v_205 hF_204; obtain rfl : .bool q_50 = v_205 := Eq.symm hF_204
      replace S := S.put (by decide : 50 < 176) (.bool q_50)
      refine endE_nil S ?_; clear S; intro a S
      replace R_36 := R_36.step hb_188
      replace R1 := R1.step hb_188
      replace B_2 := B_2.step hb_188
      replace B_45 := B_45.step hb_188
      replace W := W.step hb_188
      refine then_n ?_
      replace S := S.sub (l' := [(50, .bool q_50), (1, v1)]) (by exact ⟨rfl, rfl, trivial⟩)
      refine wp_cond_split (S.eval (show ev _ _ = some (.bool q_50) from rfl)) ?_ ?_
      · intro hc
        rw [if_pos hc] at h
        refine wp_seq ?_
        refine wp_region_lit ?_
        refine wl_pure (l' := [(4, .bool false), (50, .bool q_50), (1, v1)]) S tys tys_ok 1 (by kernel_rfl) ?_
        clear S; intro a S
        refine wpList_nil ?_
        refine then_n ?_
        replace S := S.sub (l' := [(4, .bool false)]) (by exact ⟨rfl, trivial⟩)
        refine wp_ret ?_
        refine then_r ?_
        obtain rfl := Option.some.inj h
        exact b_ret1 S rfl rfl ⟨_, rfl, RepV.mkBool, W.below⟩
      · intro hc
        rw [if_neg (Bool.eq_false_iff.1 hc)] at h
        refine wp_skip ?_
        refine then_n ?_
        replace S := S.sub (l' := [(1, v1)]) (by exact ⟨rfl, trivial⟩)
        refine wp_seq ?_
        refine wp_region_lit ?_
        refine wl_pure (l' := [(52, v1), (1, v1)]) S tys tys_ok 1 (by kernel_rfl) ?_
        clear S; intro a S
        obtain ⟨t_206, et_206, h⟩ := bindS h
        refine w_go S rfl (op_call (vs := [v1]) S rfl cb29 rfl rfl rfl (c29 (Kx K w.heap.size [some b_44, some b_1]) n w_187 x1 _ R1 et_206) ?_)
        rintro _ w_212 ⟨v_207, v_208, rfl, R_209, R_210, hb_211⟩; refine ⟨_, rfl, ?_⟩
        replace R_209 := RepV.back R_209 W
        replace R_210 := RepV.back R_210 W
        clear S; intro a S
        replace R1 := R1.step hb_211
        replace B_2 := B_2.step hb_211
        replace B_45 := B_45.step hb_211
        replace W := W.step hb_211
        obtain ⟨rfl, GR_210⟩ := RepV.int R_210
        refine wl_pure (l' := [(55, .int .i64 t_206.2), (54, v_207), (51, .tuple #[v_207, .int .i64 t_206.2]), (53, .tuple #[v_207, .int .i64 t_206.2]), (52, v1), (1, v1)]) S tys tys_ok 3 (by kernel_rfl) ?_
        clear S; intro a S
        refine w_go S rfl (op_alloc (K := K) (n := w.heap.size) (L := [some b_44, some b_1]) (t := (.st (.pair (.int .u8) (.pair (.int .u8) (.pair (.int .u8) (.sl .bool)))))) (y := (0, 0, 0, ⟨[], some 0⟩)) S rfl rfl rfl _ z66 (fun w K => ⟨[.int .u8 0], [.int .u8 0, .int .u8 0, .slice .none 0 0], rfl, ⟨rfl, by decide⟩, ⟨[.int .u8 0], [.int .u8 0, .slice .none 0 0], rfl, ⟨rfl, by decide⟩, ⟨[.int .u8 0], [.slice .none 0 0], rfl, ⟨rfl, by decide⟩, ⟨.none, 0, 0, rfl, rfl, Nat.le_refl _, by decide, fun k h => Option.some.inj h, .inl rfl⟩⟩⟩⟩) ?_)
        clear S; intro a w_215 b_213 hb_216 B_214 S
        replace R1 := R1.box hb_216
        replace R_209 := R_209.box hb_216
        replace B_2 := B_2.box hb_216
        replace B_45 := B_45.box hb_216
        replace W := W.box hb_216
        refine w_go S rfl (op_store (t' := (.st (.pair (.int .u8) (.pair (.int .u8) (.pair (.int .u8) (.sl .bool)))))) S rfl rfl ty66 rfl rfl rfl B_214 (by simp) Ln.whole R_209 ?_)
        intro w_217 hw_218 B_
        replace R1 := R1.wrote hw_218 (by simp)
        replace R_209 := R_209.wrote hw_218 (by simp)
        replace B_2 := B_2.wrote hw_218 (by simp) (W.bne (p := 2) (q := 0) (by decide) rfl rfl)
        replace B_45 := B_45.wrote hw_218 (by simp) (W.bne (p := 1) (q := 0) (by decide) rfl rfl)
        replace W := W.wrote hw_218 (by simp)
        replace B_214 : Bx (.st (.pair (.int .u8) (.pair (.int .u8) (.pair (.int .u8) (.sl .bool))))) 66 w_217 (Kx K w.heap.size [some b_213, some b_44, some b_1]) b_213 t_206.1 := B_; clear B_
        refine wl_pure (l' := [(10, .int .i64 t_206.2), (9, .pointer (some (⟨b_213, 0, .none⟩ : Addr))), (55, .int .i64 t_206.2), (54, v_207), (51, .tuple #[v_207, .int .i64 t_206.2]), (53, .tuple #[v_207, .int .i64 t_206.2]), (52, v1), (1, v1)]) S tys tys_ok 1 (by kernel_rfl) ?_
        clear S; intro a S
        refine wpList_nil ?_
        refine then_n ?_
        replace S := S.sub (l' := [(10, .int .i64 t_206.2), (9, .pointer (some (⟨b_213, 0, .none⟩ : Addr))), (1, v1)]) (by exact ⟨rfl, rfl, rfl, trivial⟩)
        refine wp_seq ?_
        refine wp_seq ?_
        refine wp_region_lit ?_
        refine wl_pure (l' := [(57, .bool (t_206.2 != 0)), (56, .int .i64 t_206.2), (10, .int .i64 t_206.2), (9, .pointer (some (⟨b_213, 0, .none⟩ : Addr))), (1, v1)]) S tys tys_ok 2 (by kernel_rfl) ?_
        clear S; intro a S
        refine wpList_nil ?_
        refine then_n ?_
        replace S := S.sub (l' := [(57, .bool (t_206.2 != 0)), (10, .int .i64 t_206.2), (9, .pointer (some (⟨b_213, 0, .none⟩ : Addr))), (1, v1)]) (by exact ⟨rfl, rfl, rfl, rfl, trivial⟩)
        refine wp_cond_split (S.eval (show ev _ _ = some (.bool (t_206.2 != 0)) from rfl)) ?_ ?_
        · intro hc
          rw [if_pos hc] at h
          refine wp_seq ?_
          obtain ⟨q_220, eq_220, h⟩ := bindS h
          obtain ⟨y_222, HG_221⟩ : ∃ (y_222 : Int) , (((lenI x1) == 9) = true → (idx x1.xs 0) = some y_222 ∧ (y_222 == 9) = q_220) ∧ (¬ ((lenI x1) == 9) = true → false = q_220) := by
            by_cases hc : ((lenI x1) == 9) = true
            · rw [if_pos hc] at eq_220
              obtain ⟨y_222, ey_222, eq_220⟩ := bindS eq_220
              exact ⟨y_222, ⟨fun _ => ⟨ey_222, Option.some.inj eq_220⟩, fun k_ => absurd hc k_⟩⟩
            · rw [if_neg hc] at eq_220
              exact ⟨default, ⟨fun k_ => absurd k_ hc, fun _ => Option.some.inj eq_220⟩⟩
          obtain ⟨q_228, eq_228, h⟩ := bindS h
          obtain ⟨y_230, HG_229⟩ : ∃ (y_230 : Int) , (q_220 = true → (idx x1.xs 1) = some y_230 ∧ (y_230 == 41) = q_228) ∧ (¬ q_220 = true → false = q_228) := by
            by_cases hc : q_220 = true
            · rw [if_pos hc] at eq_228
              obtain ⟨y_230, ey_230, eq_228⟩ := bindS eq_228
              exact ⟨y_230, ⟨fun _ => ⟨ey_230, Option.some.inj eq_228⟩, fun k_ => absurd hc k_⟩⟩
            · rw [if_neg hc] at eq_228
              exact ⟨default, ⟨fun k_ => absurd k_ hc, fun _ => Option.some.inj eq_228⟩⟩
          obtain ⟨q_236, eq_236, h⟩ := bindS h
          obtain ⟨y_238, HG_237⟩ : ∃ (y_238 : Int) , (q_228 = true → (idx x1.xs 2) = some y_238 ∧ (decide (y_238 > 0)) = q_236) ∧ (¬ q_228 = true → false = q_236) := by
            by_cases hc : q_228 = true
            · rw [if_pos hc] at eq_236
              obtain ⟨y_238, ey_238, eq_236⟩ := bindS eq_236
              exact ⟨y_238, ⟨fun _ => ⟨ey_238, Option.some.inj eq_236⟩, fun k_ => absurd hc k_⟩⟩
            · rw [if_neg hc] at eq_236
              exact ⟨default, ⟨fun k_ => absurd k_ hc, fun _ => Option.some.inj eq_236⟩⟩
          obtain ⟨q_244, eq_244, h⟩ := bindS h
          obtain ⟨y_246, HG_245⟩ : ∃ (y_246 : Int) , (q_236 = true → (idx x1.xs 2) = some y_246 ∧ (decide (y_246 < 8)) = q_244) ∧ (¬ q_236 = true → false = q_244) := by
            by_cases hc : q_236 = true
            · rw [if_pos hc] at eq_244
              obtain ⟨y_246, ey_246, eq_244⟩ := bindS eq_244
              exact ⟨y_246, ⟨fun _ => ⟨ey_246, Option.some.inj eq_244⟩, fun k_ => absurd hc k_⟩⟩
            · rw [if_neg hc] at eq_244
              exact ⟨default, ⟨fun k_ => absurd k_ hc, fun _ => Option.some.inj eq_244⟩⟩
          obtain ⟨q_252, eq_252, h⟩ := bindS h
          obtain ⟨y_254, HG_253⟩ : ∃ (y_254 : Int) , (q_244 = true → (idx x1.xs 3) = some y_254 ∧ (y_254 == 9) = q_252) ∧ (¬ q_244 = true → false = q_252) := by
            by_cases hc : q_244 = true
            · rw [if_pos hc] at eq_252
              obtain ⟨y_254, ey_254, eq_252⟩ := bindS eq_252
              exact ⟨y_254, ⟨fun _ => ⟨ey_254, Option.some.inj eq_252⟩, fun k_ => absurd hc k_⟩⟩
            · rw [if_neg hc] at eq_252
              exact ⟨default, ⟨fun k_ => absurd k_ hc, fun _ => Option.some.inj eq_252⟩⟩
          obtain ⟨q_260, eq_260, h⟩ := bindS h
          obtain ⟨y_262, HG_261⟩ : ∃ (y_262 : Int) , (q_252 = true → (idx x1.xs 4) = some y_262 ∧ (y_262 == 0) = q_260) ∧ (¬ q_252 = true → false = q_260) := by
            by_cases hc : q_252 = true
            · rw [if_pos hc] at eq_260
              obtain ⟨y_262, ey_262, eq_260⟩ := bindS eq_260
              exact ⟨y_262, ⟨fun _ => ⟨ey_262, Option.some.inj eq_260⟩, fun k_ => absurd hc k_⟩⟩
            · rw [if_neg hc] at eq_260
              exact ⟨default, ⟨fun k_ => absurd k_ hc, fun _ => Option.some.inj eq_260⟩⟩
          obtain ⟨q_268, eq_268, h⟩ := bindS h
          obtain ⟨y_270, x_276, HG_269⟩ : ∃ (y_270 : Int) (x_276 : Int) , (q_260 = true → (idx x1.xs 7) = some y_270 ∧ (remI .u8 y_270 2) = some x_276 ∧ (x_276 == 0) = q_268) ∧ (¬ q_260 = true → false = q_268) := by
            by_cases hc : q_260 = true
            · rw [if_pos hc] at eq_268
              obtain ⟨y_270, ey_270, eq_268⟩ := bindS eq_268
              obtain ⟨x_276, ex_276, eq_268⟩ := bindS eq_268
              exact ⟨y_270, x_276, ⟨fun _ => ⟨ey_270, ex_276, Option.some.inj eq_268⟩, fun k_ => absurd hc k_⟩⟩
            · rw [if_neg hc] at eq_268
              exact ⟨default, default, ⟨fun k_ => absurd k_ hc, fun _ => Option.some.inj eq_268⟩⟩
          obtain ⟨q_277, eq_277, h⟩ := bindS h
          obtain ⟨y_279, q_285, HG_278⟩ : ∃ (y_279 : Int) (q_285 : Bool) , (q_268 = true → (idx x1.xs 2) = some y_279 ∧ (if (y_279 == 7) = false then (idx x1.xs 7).bind fun y_287 => (idx x1.xs 2).bind fun y_293 => (shlI .i64 2 y_293).bind fun x_299 => some (decide (y_287 < x_299)) else some true) = some q_285 ∧ q_285 = q_277) ∧ (¬ q_268 = true → false = q_277) := by
            by_cases hc : q_268 = true
            · rw [if_pos hc] at eq_277
              obtain ⟨y_279, ey_279, eq_277⟩ := bindS eq_277
              obtain ⟨q_285, eq_285, eq_277⟩ := bindS eq_277
              exact ⟨y_279, q_285, ⟨fun _ => ⟨ey_279, eq_285, Option.some.inj eq_277⟩, fun k_ => absurd hc k_⟩⟩
            · rw [if_neg hc] at eq_277
              exact ⟨default, default, ⟨fun k_ => absurd k_ hc, fun _ => Option.some.inj eq_277⟩⟩
          obtain ⟨y_287, y_293, x_299, HG_286⟩ : ∃ (y_287 : Int) (y_293 : Int) (x_299 : Int) , (q_268 = true → ((y_279 == 7) = false → (idx x1.xs 7) = some y_287 ∧ (idx x1.xs 2) = some y_293 ∧ (shlI .i64 2 y_293) = some x_299 ∧ (decide (y_287 < x_299)) = q_285) ∧ (¬ (y_279 == 7) = false → true = q_285)) := by
            by_cases ho7 : q_268 = true
            · skip
              have eq_285 := (HG_278.1 ho7).2.1
              by_cases hc : (y_279 == 7) = false
              · rw [if_pos hc] at eq_285
                obtain ⟨y_287, ey_287, eq_285⟩ := bindS eq_285
                obtain ⟨y_293, ey_293, eq_285⟩ := bindS eq_285
                obtain ⟨x_299, ex_299, eq_285⟩ := bindS eq_285
                exact ⟨y_287, y_293, x_299, fun _ => ⟨fun _ => ⟨ey_287, ey_293, ex_299, Option.some.inj eq_285⟩, fun k_ => absurd hc k_⟩⟩
              · rw [if_neg hc] at eq_285
                exact ⟨default, default, default, fun _ => ⟨fun k_ => absurd k_ hc, fun _ => Option.some.inj eq_285⟩⟩
            · exact ⟨default, default, default, fun k_ => absurd k_ ho7⟩
          obtain ⟨q_300, eq_300, h⟩ := bindS h
          obtain ⟨y_302, HG_301⟩ : ∃ (y_302 : Int) , (q_277 = true → (idx x1.xs 8) = some y_302 ∧ (y_302 == 255) = q_300) ∧ (¬ q_277 = true → false = q_300) := by
            by_cases hc : q_277 = true
            · rw [if_pos hc] at eq_300
              obtain ⟨y_302, ey_302, eq_300⟩ := bindS eq_300
              exact ⟨y_302, ⟨fun _ => ⟨ey_302, Option.some.inj eq_300⟩, fun k_ => absurd hc k_⟩⟩
            · rw [if_neg hc] at eq_300
              exact ⟨default, ⟨fun k_ => absurd k_ hc, fun _ => Option.some.inj eq_300⟩⟩
          have hR : Rel (Kx K w.heap.size [some b_213, some b_44, some b_1]) Bl := Bl.rel _
          refine wp_region_all hR [isRep (.sl (.int .u8)) (Kx K w.heap.size [some b_213, some b_44, some b_1]) x1, isI .i64 (lenI x1), eqv (.bool ((lenI x1) == 9)), eqv (.bool ((lenI x1) == 9)), cndF ((lenI x1) == 9) true (isRep (.sl (.int .u8)) (Kx K w.heap.size [some b_213, some b_44, some b_1]) x1), cndF ((lenI x1) == 9) true (isEl (.int .u8) (Kx K w.heap.size [some b_213, some b_44, some b_1]) y_222), cndF ((lenI x1) == 9) true (isI .u8 y_222), cndF ((lenI x1) == 9) true (eqv (.bool (y_222 == 9))), eqv (.bool q_220), eqv (.bool q_220), cndF q_220 true (isRep (.sl (.int .u8)) (Kx K w.heap.size [some b_213, some b_44, some b_1]) x1), cndF q_220 true (isEl (.int .u8) (Kx K w.heap.size [some b_213, some b_44, some b_1]) y_230), cndF q_220 true (isI .u8 y_230), cndF q_220 true (eqv (.bool (y_230 == 41))), eqv (.bool q_228), eqv (.bool q_228), cndF q_228 true (isRep (.sl (.int .u8)) (Kx K w.heap.size [some b_213, some b_44, some b_1]) x1), cndF q_228 true (isEl (.int .u8) (Kx K w.heap.size [some b_213, some b_44, some b_1]) y_238), cndF q_228 true (isI .u8 y_238), cndF q_228 true (eqv (.bool (decide (y_238 > 0)))), eqv (.bool q_236), eqv (.bool q_236), cndF q_236 true (isRep (.sl (.int .u8)) (Kx K w.heap.size [some b_213, some b_44, some b_1]) x1), cndF q_236 true (isEl (.int .u8) (Kx K w.heap.size [some b_213, some b_44, some b_1]) y_246), cndF q_236 true (isI .u8 y_246), cndF q_236 true (eqv (.bool (decide (y_246 < 8)))), eqv (.bool q_244), eqv (.bool q_244), cndF q_244 true (isRep (.sl (.int .u8)) (Kx K w.heap.size [some b_213, some b_44, some b_1]) x1), cndF q_244 true (isEl (.int .u8) (Kx K w.heap.size [some b_213, some b_44, some b_1]) y_254), cndF q_244 true (isI .u8 y_254), cndF q_244 true (eqv (.bool (y_254 == 9))), eqv (.bool q_252), eqv (.bool q_252), cndF q_252 true (isRep (.sl (.int .u8)) (Kx K w.heap.size [some b_213, some b_44, some b_1]) x1), cndF q_252 true (isEl (.int .u8) (Kx K w.heap.size [some b_213, some b_44, some b_1]) y_262), cndF q_252 true (isI .u8 y_262), cndF q_252 true (eqv (.bool (y_262 == 0))), eqv (.bool q_260), eqv (.bool q_260), cndF q_260 true (isRep (.sl (.int .u8)) (Kx K w.heap.size [some b_213, some b_44, some b_1]) x1), cndF q_260 true (isEl (.int .u8) (Kx K w.heap.size [some b_213, some b_44, some b_1]) y_270), cndF q_260 true (isI .u8 y_270), cndF q_260 true (isI .u8 x_276), cndF q_260 true (eqv (.bool (x_276 == 0))), eqv (.bool q_268), eqv (.bool q_268), cndF q_268 true (isRep (.sl (.int .u8)) (Kx K w.heap.size [some b_213, some b_44, some b_1]) x1), cndF q_268 true (isEl (.int .u8) (Kx K w.heap.size [some b_213, some b_44, some b_1]) y_279), cndF q_268 true (isI .u8 y_279), cndF q_268 true (eqv (.bool (y_279 == 7))), cndF q_268 true (eqv (.bool (y_279 == 7))), cndF q_268 true (cndF (y_279 == 7) false (isRep (.sl (.int .u8)) (Kx K w.heap.size [some b_213, some b_44, some b_1]) x1)), cndF q_268 true (cndF (y_279 == 7) false (isEl (.int .u8) (Kx K w.heap.size [some b_213, some b_44, some b_1]) y_287)), cndF q_268 true (cndF (y_279 == 7) false (isI .u8 y_287)), cndF q_268 true (cndF (y_279 == 7) false (isI .i64 y_287)), cndF q_268 true (cndF (y_279 == 7) false (isRep (.sl (.int .u8)) (Kx K w.heap.size [some b_213, some b_44, some b_1]) x1)), cndF q_268 true (cndF (y_279 == 7) false (isEl (.int .u8) (Kx K w.heap.size [some b_213, some b_44, some b_1]) y_293)), cndF q_268 true (cndF (y_279 == 7) false (isI .u8 y_293)), cndF q_268 true (cndF (y_279 == 7) false (isI .i64 x_299)), cndF q_268 true (cndF (y_279 == 7) false (eqv (.bool (decide (y_287 < x_299))))), cndF q_268 true (eqv (.bool q_285)), eqv (.bool q_277), eqv (.bool q_277), cndF q_277 true (isRep (.sl (.int .u8)) (Kx K w.heap.size [some b_213, some b_44, some b_1]) x1), cndF q_277 true (isEl (.int .u8) (Kx K w.heap.size [some b_213, some b_44, some b_1]) y_302), cndF q_277 true (isI .u8 y_302), cndF q_277 true (eqv (.bool (y_302 == 255))), eqv (.bool q_300), eqv (.bool q_300)] [[], [(0, 58)], [(1, 59)], [(2, 60)], [(3, 61)], [(4, 62), (3, 61)], [(5, 63), (3, 61)], [(6, 64), (3, 61)], [(3, 61), (7, 65)], [(8, 66)], [(9, 67)], [(10, 68), (9, 67)], [(11, 69), (9, 67)], [(12, 70), (9, 67)], [(9, 67), (13, 71)], [(14, 72)], [(15, 73)], [(16, 74), (15, 73)], [(17, 75), (15, 73)], [(18, 76), (15, 73)], [(15, 73), (19, 77)], [(20, 78)], [(21, 79)], [(22, 80), (21, 79)], [(23, 81), (21, 79)], [(24, 82), (21, 79)], [(21, 79), (25, 83)], [(26, 84)], [(27, 85)], [(28, 86), (27, 85)], [(29, 87), (27, 85)], [(30, 88), (27, 85)], [(27, 85), (31, 89)], [(32, 90)], [(33, 91)], [(34, 92), (33, 91)], [(35, 93), (33, 91)], [(36, 94), (33, 91)], [(33, 91), (37, 95)], [(38, 96)], [(39, 97)], [(40, 98), (39, 97)], [(41, 99), (39, 97)], [(42, 100), (39, 97)], [(43, 101), (39, 97)], [(39, 97), (44, 102)], [(45, 103)], [(46, 104)], [(47, 105), (46, 104)], [(48, 106), (46, 104)], [(49, 107), (46, 104)], [(50, 108), (46, 104)], [(51, 109)], [(52, 110), (51, 109)], [(53, 111), (51, 109)], [(54, 112), (51, 109)], [(51, 109)], [(56, 114), (51, 109)], [(57, 115), (51, 109)], [(58, 116), (51, 109)], [(55, 113), (59, 117), (51, 109)], [(51, 109), (60, 118), (46, 104)], [(46, 104), (61, 119)], [(62, 120)], [(63, 121)], [(64, 122), (63, 121)], [(65, 123), (63, 121)], [(66, 124), (63, 121)], [(63, 121), (67, 125)], [(68, 126)]] (by kernel_rfl) (by rw [S.size]; kernel_rfl) (by kernel_rfl) (by kernel_rfl) rfl ⟨(stab_rep hR), stab_I, (stab_eqv _), (stab_eqv _), (stab_cnd (stab_rep hR)), (stab_cnd (stab_el hR)), (stab_cnd stab_I), (stab_cnd (stab_eqv _)), (stab_eqv _), (stab_eqv _), (stab_cnd (stab_rep hR)), (stab_cnd (stab_el hR)), (stab_cnd stab_I), (stab_cnd (stab_eqv _)), (stab_eqv _), (stab_eqv _), (stab_cnd (stab_rep hR)), (stab_cnd (stab_el hR)), (stab_cnd stab_I), (stab_cnd (stab_eqv _)), (stab_eqv _), (stab_eqv _), (stab_cnd (stab_rep hR)), (stab_cnd (stab_el hR)), (stab_cnd stab_I), (stab_cnd (stab_eqv _)), (stab_eqv _), (stab_eqv _), (stab_cnd (stab_rep hR)), (stab_cnd (stab_el hR)), (stab_cnd stab_I), (stab_cnd (stab_eqv _)), (stab_eqv _), (stab_eqv _), (stab_cnd (stab_rep hR)), (stab_cnd (stab_el hR)), (stab_cnd stab_I), (stab_cnd (stab_eqv _)), (stab_eqv _), (stab_eqv _), (stab_cnd (stab_rep hR)), (stab_cnd (stab_el hR)), (stab_cnd stab_I), (stab_cnd stab_I), (stab_cnd (stab_eqv _)), (stab_eqv _), (stab_eqv _), (stab_cnd (stab_rep hR)), (stab_cnd (stab_el hR)), (stab_cnd stab_I), (stab_cnd (stab_eqv _)), (stab_cnd (stab_eqv _)), (stab_cnd (stab_cnd (stab_rep hR))), (stab_cnd (stab_cnd (stab_el hR))), (stab_cnd (stab_cnd stab_I)), (stab_cnd (stab_cnd stab_I)), (stab_cnd (stab_cnd (stab_rep hR))), (stab_cnd (stab_cnd (stab_el hR))), (stab_cnd (stab_cnd stab_I)), (stab_cnd (stab_cnd stab_I)), (stab_cnd (stab_cnd (stab_eqv _))), (stab_cnd (stab_eqv _)), (stab_eqv _), (stab_eqv _), (stab_cnd (stab_rep hR)), (stab_cnd (stab_el hR)), (stab_cnd stab_I), (stab_cnd (stab_eqv _)), (stab_eqv _), (stab_eqv _), trivial⟩ ?_ ?_
          ·
            refine RunAll.cons (isRep (.sl (.int .u8)) (Kx K w.heap.size [some b_213, some b_44, some b_1]) x1) [] rfl rfl ?_ ?_
            · intro W_ hW
              have S1 := S
              refine fill_nil S1 ?_; clear S1; intro a_ S1
              replace R1 := R1.step hW
              have S0 := S.defers; replace S := S1; clear S1
              refine wl_pure (l' := [(58, v1), (57, .bool (t_206.2 != 0)), (10, .int .i64 t_206.2), (9, .pointer (some (⟨b_213, 0, .none⟩ : Addr))), (1, v1)]) S tys tys_ok 1 (by kernel_rfl) ?_; clear S; intro a S
              refine wpList_nil ?_
              exact RPost.mk_ S rfl S0 R1 (Below.refl _ _)
            refine RunAll.cons (isI .i64 (lenI x1)) [(isRep (.sl (.int .u8)) (Kx K w.heap.size [some b_213, some b_44, some b_1]) x1, 58)] rfl rfl ?_ ?_
            · intro W_ hW
              have S1 := S
              intro v_309 hF_308; replace hF_308 : RepV _ _ _ _ _ := hF_308
              replace S1 := S1.put (by decide : 58 < 176) (v_309)
              refine fill_nil S1 ?_; clear S1; intro a_ S1
              replace W := W.step hW
              have S0 := S.defers; replace S := S1; clear S1
              refine w_go S rfl (op_len (K := _) S rfl ty23 rfl rfl rfl hF_308 ?_)
              clear S; intro a G_310 S
              refine wpList_nil ?_
              exact RPost.mk_ S rfl S0 ⟨rfl, G_310⟩ (Below.refl _ _)
            refine RunAll.cons (eqv (.bool ((lenI x1) == 9))) [(isI .i64 (lenI x1), 59)] rfl rfl ?_ ?_
            · intro W_ hW
              have S1 := S
              rintro _ ⟨rfl, hF_311⟩
              replace S1 := S1.put (by decide : 59 < 176) (.int .i64 (lenI x1))
              refine fill_nil S1 ?_; clear S1; intro a_ S1
              have S0 := S.defers; replace S := S1; clear S1
              refine wl_pure (l' := [(60, .bool ((lenI x1) == 9)), (59, .int .i64 (lenI x1)), (57, .bool (t_206.2 != 0)), (10, .int .i64 t_206.2), (9, .pointer (some (⟨b_213, 0, .none⟩ : Addr))), (1, v1)]) S tys tys_ok 1 (by kernel_rfl) ?_; clear S; intro a S
              refine wpList_nil ?_
              exact RPost.mk_ S rfl S0 rfl (Below.refl _ _)
            refine RunAll.cons (eqv (.bool ((lenI x1) == 9))) [(eqv (.bool ((lenI x1) == 9)), 60)] rfl rfl ?_ ?_
            · intro W_ hW
              have S1 := S
              intro v_314 hF_313; obtain rfl : .bool ((lenI x1) == 9) = v_314 := Eq.symm hF_313
              replace S1 := S1.put (by decide : 60 < 176) (.bool ((lenI x1) == 9))
              refine fill_nil S1 ?_; clear S1; intro a_ S1
              have S0 := S.defers; replace S := S1; clear S1
              refine wl_pure (l' := [(61, .bool ((lenI x1) == 9)), (60, .bool ((lenI x1) == 9)), (57, .bool (t_206.2 != 0)), (10, .int .i64 t_206.2), (9, .pointer (some (⟨b_213, 0, .none⟩ : Addr))), (1, v1)]) S tys tys_ok 1 (by kernel_rfl) ?_; clear S; intro a S
              refine wpList_nil ?_
              exact RPost.mk_ S rfl S0 rfl (Below.refl _ _)
            refine RunAll.cons (cndF ((lenI x1) == 9) true (isRep (.sl (.int .u8)) (Kx K w.heap.size [some b_213, some b_44, some b_1]) x1)) [(eqv (.bool ((lenI x1) == 9)), 61)] rfl rfl ?_ ?_
            · intro W_ hW
              by_cases hc0 : ((lenI x1) == 9) = true
              · have hl0 : ((lenI x1) == 9) = true := hc0
                have S1 := S
                intro v_316 hF_315; obtain rfl : .bool ((lenI x1) == 9) = v_316 := Eq.symm hF_315
                replace S1 := S1.put (by decide : 61 < 176) (.bool ((lenI x1) == 9))
                refine fill_nil S1 ?_; clear S1; intro a_ S1
                replace R1 := R1.step hW
                rw [show ((lenI x1) == 9) = true from hl0] at S1
                have S0 := S.defers; replace S := S1; clear S1
                refine wl_pure (l' := [(62, v1), (61, .bool true), (57, .bool (t_206.2 != 0)), (10, .int .i64 t_206.2), (9, .pointer (some (⟨b_213, 0, .none⟩ : Addr))), (1, v1)]) S tys tys_ok 1 (by kernel_rfl) ?_; clear S; intro a S
                refine wpList_nil ?_
                exact RPost.mk_ S rfl S0 ⟨fun _ => R1, fun k_ => absurd hc0 k_⟩ (Below.refl _ _)
              · have hl0 : ((lenI x1) == 9) = false := Bool.eq_false_iff.2 hc0
                have S1 := S
                intro v_318 hF_317; obtain rfl : .bool ((lenI x1) == 9) = v_318 := Eq.symm hF_317
                replace S1 := S1.put (by decide : 61 < 176) (.bool ((lenI x1) == 9))
                refine fill_nil S1 ?_; clear S1; intro a_ S1
                rw [show ((lenI x1) == 9) = false from hl0] at S1
                have S0 := S.defers; replace S := S1; clear S1
                refine wl_pure (l' := [(62, undef), (61, .bool false), (57, .bool (t_206.2 != 0)), (10, .int .i64 t_206.2), (9, .pointer (some (⟨b_213, 0, .none⟩ : Addr))), (1, v1)]) S tys tys_ok 1 (by kernel_rfl) ?_; clear S; intro a S
                refine wpList_nil ?_
                exact RPost.mk_ S rfl S0 ⟨fun k_ => absurd k_ hc0, fun _ => rfl⟩ (Below.refl _ _)
            refine RunAll.cons (cndF ((lenI x1) == 9) true (isEl (.int .u8) (Kx K w.heap.size [some b_213, some b_44, some b_1]) y_222)) [(cndF ((lenI x1) == 9) true (isRep (.sl (.int .u8)) (Kx K w.heap.size [some b_213, some b_44, some b_1]) x1), 62), (eqv (.bool ((lenI x1) == 9)), 61)] rfl rfl ?_ ?_
            · intro W_ hW
              by_cases hc0 : ((lenI x1) == 9) = true
              · have hl0 : ((lenI x1) == 9) = true := hc0
                have S1 := S
                intro v_319 hF_320
                replace hF_320 := cndF.pos hF_320 hc0
                revert hF_320
                revert v_319
                intro v_322 hF_321; replace hF_321 : RepV _ _ _ _ _ := hF_321
                replace S1 := S1.put (by decide : 62 < 176) (v_322)
                intro v_324 hF_323; obtain rfl : .bool ((lenI x1) == 9) = v_324 := Eq.symm hF_323
                replace S1 := S1.put (by decide : 61 < 176) (.bool ((lenI x1) == 9))
                refine fill_nil S1 ?_; clear S1; intro a_ S1
                replace W := W.step hW
                rw [show ((lenI x1) == 9) = true from hl0] at S1
                have S0 := S.defers; replace S := S1; clear S1
                obtain ⟨ey_222, _⟩ := (HG_221).1 hc0
                refine w_go S rfl (op_indexAddr S rfl ty23 rfl rfl rfl hF_321 rfl ey_222 ?_)
                clear S; intro a p_325 R_326 H_327 S
                refine wpList_nil ?_
                exact RPost.mk_ S rfl S0 ⟨fun _ => ⟨_, rfl, R_326, H_327⟩, fun k_ => absurd hc0 k_⟩ (Below.refl _ _)
              · have hl0 : ((lenI x1) == 9) = false := Bool.eq_false_iff.2 hc0
                have S1 := S
                intro v_328 hF_329
                obtain rfl := cndF.neg hF_329 hc0
                replace S1 := S1.put (by decide : 62 < 176) (undef)
                intro v_331 hF_330; obtain rfl : .bool ((lenI x1) == 9) = v_331 := Eq.symm hF_330
                replace S1 := S1.put (by decide : 61 < 176) (.bool ((lenI x1) == 9))
                refine fill_nil S1 ?_; clear S1; intro a_ S1
                rw [show ((lenI x1) == 9) = false from hl0] at S1
                have S0 := S.defers; replace S := S1; clear S1
                refine wl_pure (l' := [(63, undef), (61, .bool false), (62, undef), (57, .bool (t_206.2 != 0)), (10, .int .i64 t_206.2), (9, .pointer (some (⟨b_213, 0, .none⟩ : Addr))), (1, v1)]) S tys tys_ok 1 (by kernel_rfl) ?_; clear S; intro a S
                refine wpList_nil ?_
                exact RPost.mk_ S rfl S0 ⟨fun k_ => absurd k_ hc0, fun _ => rfl⟩ (Below.refl _ _)
            refine RunAll.cons (cndF ((lenI x1) == 9) true (isI .u8 y_222)) [(cndF ((lenI x1) == 9) true (isEl (.int .u8) (Kx K w.heap.size [some b_213, some b_44, some b_1]) y_222), 63), (eqv (.bool ((lenI x1) == 9)), 61)] rfl rfl ?_ ?_
            · intro W_ hW
              by_cases hc0 : ((lenI x1) == 9) = true
              · have hl0 : ((lenI x1) == 9) = true := hc0
                have S1 := S
                intro v_332 hF_333
                replace hF_333 := cndF.pos hF_333 hc0
                revert hF_333
                revert v_332
                rintro _ ⟨p_336, rfl, R_337, H_338⟩
                replace S1 := S1.put (by decide : 63 < 176) (.pointer (some p_336))
                intro v_340 hF_339; obtain rfl : .bool ((lenI x1) == 9) = v_340 := Eq.symm hF_339
                replace S1 := S1.put (by decide : 61 < 176) (.bool ((lenI x1) == 9))
                refine fill_nil S1 ?_; clear S1; intro a_ S1
                rw [show ((lenI x1) == 9) = true from hl0] at S1
                have S0 := S.defers; replace S := S1; clear S1
                obtain ⟨ey_222, _⟩ := (HG_221).1 hc0
                refine w_go S rfl (op_load (t := (.int .u8)) (x := y_222) S rfl ty5 rfl rfl rfl R_337 ?_)
                clear S; intro a v_341 R_342 S
                obtain ⟨rfl, GR_342⟩ := RepV.int R_342
                refine wpList_nil ?_
                exact RPost.mk_ S rfl S0 ⟨fun _ => ⟨rfl, GR_342⟩, fun k_ => absurd hc0 k_⟩ (Below.refl _ _)
              · have hl0 : ((lenI x1) == 9) = false := Bool.eq_false_iff.2 hc0
                have S1 := S
                intro v_343 hF_344
                obtain rfl := cndF.neg hF_344 hc0
                replace S1 := S1.put (by decide : 63 < 176) (undef)
                intro v_346 hF_345; obtain rfl : .bool ((lenI x1) == 9) = v_346 := Eq.symm hF_345
                replace S1 := S1.put (by decide : 61 < 176) (.bool ((lenI x1) == 9))
                refine fill_nil S1 ?_; clear S1; intro a_ S1
                rw [show ((lenI x1) == 9) = false from hl0] at S1
                have S0 := S.defers; replace S := S1; clear S1
                refine wl_pure (l' := [(64, undef), (61, .bool false), (63, undef), (57, .bool (t_206.2 != 0)), (10, .int .i64 t_206.2), (9, .pointer (some (⟨b_213, 0, .none⟩ : Addr))), (1, v1)]) S tys tys_ok 1 (by kernel_rfl) ?_; clear S; intro a S
                refine wpList_nil ?_
                exact RPost.mk_ S rfl S0 ⟨fun k_ => absurd k_ hc0, fun _ => rfl⟩ (Below.refl _ _)
            refine RunAll.cons (cndF ((lenI x1) == 9) true (eqv (.bool (y_222 == 9)))) [(cndF ((lenI x1) == 9) true (isI .u8 y_222), 64), (eqv (.bool ((lenI x1) == 9)), 61)] rfl rfl ?_ ?_
            · intro W_ hW
              by_cases hc0 : ((lenI x1) == 9) = true
              · have hl0 : ((lenI x1) == 9) = true := hc0
                have S1 := S
                intro v_347 hF_348
                replace hF_348 := cndF.pos hF_348 hc0
                revert hF_348
                revert v_347
                rintro _ ⟨rfl, hF_349⟩
                replace S1 := S1.put (by decide : 64 < 176) (.int .u8 y_222)
                intro v_352 hF_351; obtain rfl : .bool ((lenI x1) == 9) = v_352 := Eq.symm hF_351
                replace S1 := S1.put (by decide : 61 < 176) (.bool ((lenI x1) == 9))
                refine fill_nil S1 ?_; clear S1; intro a_ S1
                rw [show ((lenI x1) == 9) = true from hl0] at S1
                have S0 := S.defers; replace S := S1; clear S1
                refine wl_pure (l' := [(65, .bool (y_222 == 9)), (61, .bool true), (64, .int .u8 y_222), (57, .bool (t_206.2 != 0)), (10, .int .i64 t_206.2), (9, .pointer (some (⟨b_213, 0, .none⟩ : Addr))), (1, v1)]) S tys tys_ok 1 (by kernel_rfl) ?_; clear S; intro a S
                refine wpList_nil ?_
                exact RPost.mk_ S rfl S0 ⟨fun _ => rfl, fun k_ => absurd hc0 k_⟩ (Below.refl _ _)
              · have hl0 : ((lenI x1) == 9) = false := Bool.eq_false_iff.2 hc0
                have S1 := S
                intro v_353 hF_354
                obtain rfl := cndF.neg hF_354 hc0
                replace S1 := S1.put (by decide : 64 < 176) (undef)
                intro v_356 hF_355; obtain rfl : .bool ((lenI x1) == 9) = v_356 := Eq.symm hF_355
                replace S1 := S1.put (by decide : 61 < 176) (.bool ((lenI x1) == 9))
                refine fill_nil S1 ?_; clear S1; intro a_ S1
                rw [show ((lenI x1) == 9) = false from hl0] at S1
                have S0 := S.defers; replace S := S1; clear S1
                refine wl_pure (l' := [(65, undef), (61, .bool false), (64, undef), (57, .bool (t_206.2 != 0)), (10, .int .i64 t_206.2), (9, .pointer (some (⟨b_213, 0, .none⟩ : Addr))), (1, v1)]) S tys tys_ok 1 (by kernel_rfl) ?_; clear S; intro a S
                refine wpList_nil ?_
                exact RPost.mk_ S rfl S0 ⟨fun k_ => absurd k_ hc0, fun _ => rfl⟩ (Below.refl _ _)
            refine RunAll.cons (eqv (.bool q_220)) [(eqv (.bool ((lenI x1) == 9)), 61), (cndF ((lenI x1) == 9) true (eqv (.bool (y_222 == 9))), 65)] rfl rfl ?_ ?_
            · intro W_ hW
              by_cases hc0 : ((lenI x1) == 9) = true
              · have hl0 : ((lenI x1) == 9) = true := hc0
                have S1 := S
                intro v_358 hF_357; obtain rfl : .bool ((lenI x1) == 9) = v_358 := Eq.symm hF_357
                replace S1 := S1.put (by decide : 61 < 176) (.bool ((lenI x1) == 9))
                intro v_359 hF_360
                replace hF_360 := cndF.pos hF_360 hc0
                revert hF_360
                revert v_359
                intro v_362 hF_361; obtain rfl : .bool (y_222 == 9) = v_362 := Eq.symm hF_361
                replace S1 := S1.put (by decide : 65 < 176) (.bool (y_222 == 9))
                refine fill_nil S1 ?_; clear S1; intro a_ S1
                rw [show ((lenI x1) == 9) = true from hl0] at S1
                have S0 := S.defers; replace S := S1; clear S1
                refine wl_pure (l' := [(66, .bool (y_222 == 9)), (65, .bool (y_222 == 9)), (61, .bool true), (57, .bool (t_206.2 != 0)), (10, .int .i64 t_206.2), (9, .pointer (some (⟨b_213, 0, .none⟩ : Addr))), (1, v1)]) S tys tys_ok 1 (by kernel_rfl) ?_; clear S; intro a S
                refine wpList_nil ?_
                exact RPost.mk_ S rfl S0 (congrArg Value.bool ((HG_221).1 hc0).2) (Below.refl _ _)
              · have hl0 : ((lenI x1) == 9) = false := Bool.eq_false_iff.2 hc0
                have S1 := S
                intro v_364 hF_363; obtain rfl : .bool ((lenI x1) == 9) = v_364 := Eq.symm hF_363
                replace S1 := S1.put (by decide : 61 < 176) (.bool ((lenI x1) == 9))
                intro v_365 hF_366
                obtain rfl := cndF.neg hF_366 hc0
                replace S1 := S1.put (by decide : 65 < 176) (undef)
                refine fill_nil S1 ?_; clear S1; intro a_ S1
                rw [show ((lenI x1) == 9) = false from hl0] at S1
                have S0 := S.defers; replace S := S1; clear S1
                refine wl_pure (l' := [(66, .bool false), (65, undef), (61, .bool false), (57, .bool (t_206.2 != 0)), (10, .int .i64 t_206.2), (9, .pointer (some (⟨b_213, 0, .none⟩ : Addr))), (1, v1)]) S tys tys_ok 1 (by kernel_rfl) ?_; clear S; intro a S
                refine wpList_nil ?_
                exact RPost.mk_ S rfl S0 (congrArg Value.bool ((HG_221).2 hc0)) (Below.refl _ _)
            refine RunAll.cons (eqv (.bool q_220)) [(eqv (.bool q_220), 66)] rfl rfl ?_ ?_
            · intro W_ hW
              have S1 := S
              intro v_368 hF_367; obtain rfl : .bool q_220 = v_368 := Eq.symm hF_367
              replace S1 := S1.put (by decide : 66 < 176) (.bool q_220)
              refine fill_nil S1 ?_; clear S1; intro a_ S1
              have S0 := S.defers; replace S := S1; clear S1
              refine wl_pure (l' := [(67, .bool q_220), (66, .bool q_220), (57, .bool (t_206.2 != 0)), (10, .int .i64 t_206.2), (9, .pointer (some (⟨b_213, 0, .none⟩ : Addr))), (1, v1)]) S tys tys_ok 1 (by kernel_rfl) ?_; clear S; intro a S
              refine wpList_nil ?_
              exact RPost.mk_ S rfl S0 rfl (Below.refl _ _)
            refine RunAll.cons (cndF q_220 true (isRep (.sl (.int .u8)) (Kx K w.heap.size [some b_213, some b_44, some b_1]) x1)) [(eqv (.bool q_220), 67)] rfl rfl ?_ ?_
            · intro W_ hW
              by_cases hc1 : q_220 = true
              · have hl1 : q_220 = true := hc1
                have S1 := S
                intro v_370 hF_369; obtain rfl : .bool q_220 = v_370 := Eq.symm hF_369
                replace S1 := S1.put (by decide : 67 < 176) (.bool q_220)
                refine fill_nil S1 ?_; clear S1; intro a_ S1
                replace R1 := R1.step hW
                rw [show q_220 = true from hl1] at S1
                have S0 := S.defers; replace S := S1; clear S1
                refine wl_pure (l' := [(68, v1), (67, .bool true), (57, .bool (t_206.2 != 0)), (10, .int .i64 t_206.2), (9, .pointer (some (⟨b_213, 0, .none⟩ : Addr))), (1, v1)]) S tys tys_ok 1 (by kernel_rfl) ?_; clear S; intro a S
                refine wpList_nil ?_
                exact RPost.mk_ S rfl S0 ⟨fun _ => R1, fun k_ => absurd hc1 k_⟩ (Below.refl _ _)
              · have hl1 : q_220 = false := Bool.eq_false_iff.2 hc1
                have S1 := S
                intro v_372 hF_371; obtain rfl : .bool q_220 = v_372 := Eq.symm hF_371
                replace S1 := S1.put (by decide : 67 < 176) (.bool q_220)
                refine fill_nil S1 ?_; clear S1; intro a_ S1
                rw [show q_220 = false from hl1] at S1
                have S0 := S.defers; replace S := S1; clear S1
                refine wl_pure (l' := [(68, undef), (67, .bool false), (57, .bool (t_206.2 != 0)), (10, .int .i64 t_206.2), (9, .pointer (some (⟨b_213, 0, .none⟩ : Addr))), (1, v1)]) S tys tys_ok 1 (by kernel_rfl) ?_; clear S; intro a S
                refine wpList_nil ?_
                exact RPost.mk_ S rfl S0 ⟨fun k_ => absurd k_ hc1, fun _ => rfl⟩ (Below.refl _ _)
            refine RunAll.cons (cndF q_220 true (isEl (.int .u8) (Kx K w.heap.size [some b_213, some b_44, some b_1]) y_230)) [(cndF q_220 true (isRep (.sl (.int .u8)) (Kx K w.heap.size [some b_213, some b_44, some b_1]) x1), 68), (eqv (.bool q_220), 67)] rfl rfl ?_ ?_
            · intro W_ hW
              by_cases hc1 : q_220 = true
              · have hl1 : q_220 = true := hc1
                have S1 := S
                intro v_373 hF_374
                replace hF_374 := cndF.pos hF_374 hc1
                revert hF_374
                revert v_373
                intro v_376 hF_375; replace hF_375 : RepV _ _ _ _ _ := hF_375
                replace S1 := S1.put (by decide : 68 < 176) (v_376)
                intro v_378 hF_377; obtain rfl : .bool q_220 = v_378 := Eq.symm hF_377
                replace S1 := S1.put (by decide : 67 < 176) (.bool q_220)
                refine fill_nil S1 ?_; clear S1; intro a_ S1
                replace W := W.step hW
                rw [show q_220 = true from hl1] at S1
                have S0 := S.defers; replace S := S1; clear S1
                obtain ⟨ey_230, _⟩ := (HG_229).1 hc1
                refine w_go S rfl (op_indexAddr S rfl ty23 rfl rfl rfl hF_375 rfl ey_230 ?_)
                clear S; intro a p_379 R_380 H_381 S
                refine wpList_nil ?_
                exact RPost.mk_ S rfl S0 ⟨fun _ => ⟨_, rfl, R_380, H_381⟩, fun k_ => absurd hc1 k_⟩ (Below.refl _ _)
              · have hl1 : q_220 = false := Bool.eq_false_iff.2 hc1
                have S1 := S
                intro v_382 hF_383
                obtain rfl := cndF.neg hF_383 hc1
                replace S1 := S1.put (by decide : 68 < 176) (undef)
                intro v_385 hF_384; obtain rfl : .bool q_220 = v_385 := Eq.symm hF_384
                replace S1 := S1.put (by decide : 67 < 176) (.bool q_220)
                refine fill_nil S1 ?_; clear S1; intro a_ S1
                rw [show q_220 = false from hl1] at S1
                have S0 := S.defers; replace S := S1; clear S1
                refine wl_pure (l' := [(69, undef), (67, .bool false), (68, undef), (57, .bool (t_206.2 != 0)), (10, .int .i64 t_206.2), (9, .pointer (some (⟨b_213, 0, .none⟩ : Addr))), (1, v1)]) S tys tys_ok 1 (by kernel_rfl) ?_; clear S; intro a S
                refine wpList_nil ?_
                exact RPost.mk_ S rfl S0 ⟨fun k_ => absurd k_ hc1, fun _ => rfl⟩ (Below.refl _ _)
            refine RunAll.cons (cndF q_220 true (isI .u8 y_230)) [(cndF q_220 true (isEl (.int .u8) (Kx K w.heap.size [some b_213, some b_44, some b_1]) y_230), 69), (eqv (.bool q_220), 67)] rfl rfl ?_ ?_
            · intro W_ hW
              by_cases hc1 : q_220 = true
              · have hl1 : q_220 = true := hc1
                have S1 := S
                intro v_386 hF_387
                replace hF_387 := cndF.pos hF_387 hc1
                revert hF_387
                revert v_386
                rintro _ ⟨p_390, rfl, R_391, H_392⟩
                replace S1 := S1.put (by decide : 69 < 176) (.pointer (some p_390))
                intro v_394 hF_393; obtain rfl : .bool q_220 = v_394 := Eq.symm hF_393
                replace S1 := S1.put (by decide : 67 < 176) (.bool q_220)
                refine fill_nil S1 ?_; clear S1; intro a_ S1
                rw [show q_220 = true from hl1] at S1
                have S0 := S.defers; replace S := S1; clear S1
                obtain ⟨ey_230, _⟩ := (HG_229).1 hc1
                refine w_go S rfl (op_load (t := (.int .u8)) (x := y_230) S rfl ty5 rfl rfl rfl R_391 ?_)
                clear S; intro a v_395 R_396 S
                obtain ⟨rfl, GR_396⟩ := RepV.int R_396
                refine wpList_nil ?_
                exact RPost.mk_ S rfl S0 ⟨fun _ => ⟨rfl, GR_396⟩, fun k_ => absurd hc1 k_⟩ (Below.refl _ _)
              · have hl1 : q_220 = false := Bool.eq_false_iff.2 hc1
                have S1 := S
                intro v_397 hF_398
                obtain rfl := cndF.neg hF_398 hc1
                replace S1 := S1.put (by decide : 69 < 176) (undef)
                intro v_400 hF_399; obtain rfl : .bool q_220 = v_400 := Eq.symm hF_399
                replace S1 := S1.put (by decide : 67 < 176) (.bool q_220)
                refine fill_nil S1 ?_; clear S1; intro a_ S1
                rw [show q_220 = false from hl1] at S1
                have S0 := S.defers; replace S := S1; clear S1
                refine wl_pure (l' := [(70, undef), (67, .bool false), (69, undef), (57, .bool (t_206.2 != 0)), (10, .int .i64 t_206.2), (9, .pointer (some (⟨b_213, 0, .none⟩ : Addr))), (1, v1)]) S tys tys_ok 1 (by kernel_rfl) ?_; clear S; intro a S
                refine wpList_nil ?_
                exact RPost.mk_ S rfl S0 ⟨fun k_ => absurd k_ hc1, fun _ => rfl⟩ (Below.refl _ _)
            refine RunAll.cons (cndF q_220 true (eqv (.bool (y_230 == 41)))) [(cndF q_220 true (isI .u8 y_230), 70), (eqv (.bool q_220), 67)] rfl rfl ?_ ?_
            · intro W_ hW
              by_cases hc1 : q_220 = true
              · have hl1 : q_220 = true := hc1
                have S1 := S
                intro v_401 hF_402
                replace hF_402 := cndF.pos hF_402 hc1
                revert hF_402
                revert v_401
                rintro _ ⟨rfl, hF_403⟩
                replace S1 := S1.put (by decide : 70 < 176) (.int .u8 y_230)
                intro v_406 hF_405; obtain rfl : .bool q_220 = v_406 := Eq.symm hF_405
                replace S1 := S1.put (by decide : 67 < 176) (.bool q_220)
                refine fill_nil S1 ?_; clear S1; intro a_ S1
                rw [show q_220 = true from hl1] at S1
                have S0 := S.defers; replace S := S1; clear S1
                refine wl_pure (l' := [(71, .bool (y_230 == 41)), (67, .bool true), (70, .int .u8 y_230), (57, .bool (t_206.2 != 0)), (10, .int .i64 t_206.2), (9, .pointer (some (⟨b_213, 0, .none⟩ : Addr))), (1, v1)]) S tys tys_ok 1 (by kernel_rfl) ?_; clear S; intro a S
                refine wpList_nil ?_
                exact RPost.mk_ S rfl S0 ⟨fun _ => rfl, fun k_ => absurd hc1 k_⟩ (Below.refl _ _)
              · have hl1 : q_220 = false := Bool.eq_false_iff.2 hc1
                have S1 := S
                intro v_407 hF_408
                obtain rfl := cndF.neg hF_408 hc1
                replace S1 := S1.put (by decide : 70 < 176) (undef)
                intro v_410 hF_409; obtain rfl : .bool q_220 = v_410 := Eq.symm hF_409
                replace S1 := S1.put (by decide : 67 < 176) (.bool q_220)
                refine fill_nil S1 ?_; clear S1; intro a_ S1
                rw [show q_220 = false from hl1] at S1
                have S0 := S.defers; replace S := S1; clear S1
                refine wl_pure (l' := [(71, undef), (67, .bool false), (70, undef), (57, .bool (t_206.2 != 0)), (10, .int .i64 t_206.2), (9, .pointer (some (⟨b_213, 0, .none⟩ : Addr))), (1, v1)]) S tys tys_ok 1 (by kernel_rfl) ?_; clear S; intro a S
                refine wpList_nil ?_
                exact RPost.mk_ S rfl S0 ⟨fun k_ => absurd k_ hc1, fun _ => rfl⟩ (Below.refl _ _)
            refine RunAll.cons (eqv (.bool q_228)) [(eqv (.bool q_220), 67), (cndF q_220 true (eqv (.bool (y_230 == 41))), 71)] rfl rfl ?_ ?_
            · intro W_ hW
              by_cases hc1 : q_220 = true
              · have hl1 : q_220 = true := hc1
                have S1 := S
                intro v_412 hF_411; obtain rfl : .bool q_220 = v_412 := Eq.symm hF_411
                replace S1 := S1.put (by decide : 67 < 176) (.bool q_220)
                intro v_413 hF_414
                replace hF_414 := cndF.pos hF_414 hc1
                revert hF_414
                revert v_413
                intro v_416 hF_415; obtain rfl : .bool (y_230 == 41) = v_416 := Eq.symm hF_415
                replace S1 := S1.put (by decide : 71 < 176) (.bool (y_230 == 41))
                refine fill_nil S1 ?_; clear S1; intro a_ S1
                rw [show q_220 = true from hl1] at S1
                have S0 := S.defers; replace S := S1; clear S1
                refine wl_pure (l' := [(72, .bool (y_230 == 41)), (71, .bool (y_230 == 41)), (67, .bool true), (57, .bool (t_206.2 != 0)), (10, .int .i64 t_206.2), (9, .pointer (some (⟨b_213, 0, .none⟩ : Addr))), (1, v1)]) S tys tys_ok 1 (by kernel_rfl) ?_; clear S; intro a S
                refine wpList_nil ?_
                exact RPost.mk_ S rfl S0 (congrArg Value.bool ((HG_229).1 hc1).2) (Below.refl _ _)
              · have hl1 : q_220 = false := Bool.eq_false_iff.2 hc1
                have S1 := S
                intro v_418 hF_417; obtain rfl : .bool q_220 = v_418 := Eq.symm hF_417
                replace S1 := S1.put (by decide : 67 < 176) (.bool q_220)
                intro v_419 hF_420
                obtain rfl := cndF.neg hF_420 hc1
                replace S1 := S1.put (by decide : 71 < 176) (undef)
                refine fill_nil S1 ?_; clear S1; intro a_ S1
                rw [show q_220 = false from hl1] at S1
                have S0 := S.defers; replace S := S1; clear S1
                refine wl_pure (l' := [(72, .bool false), (71, undef), (67, .bool false), (57, .bool (t_206.2 != 0)), (10, .int .i64 t_206.2), (9, .pointer (some (⟨b_213, 0, .none⟩ : Addr))), (1, v1)]) S tys tys_ok 1 (by kernel_rfl) ?_; clear S; intro a S
                refine wpList_nil ?_
                exact RPost.mk_ S rfl S0 (congrArg Value.bool ((HG_229).2 hc1)) (Below.refl _ _)
            refine RunAll.cons (eqv (.bool q_228)) [(eqv (.bool q_228), 72)] rfl rfl ?_ ?_
            · intro W_ hW
              have S1 := S
              intro v_422 hF_421; obtain rfl : .bool q_228 = v_422 := Eq.symm hF_421
              replace S1 := S1.put (by decide : 72 < 176) (.bool q_228)
              refine fill_nil S1 ?_; clear S1; intro a_ S1
              have S0 := S.defers; replace S := S1; clear S1
              refine wl_pure (l' := [(73, .bool q_228), (72, .bool q_228), (57, .bool (t_206.2 != 0)), (10, .int .i64 t_206.2), (9, .pointer (some (⟨b_213, 0, .none⟩ : Addr))), (1, v1)]) S tys tys_ok 1 (by kernel_rfl) ?_; clear S; intro a S
              refine wpList_nil ?_
              exact RPost.mk_ S rfl S0 rfl (Below.refl _ _)
            refine RunAll.cons (cndF q_228 true (isRep (.sl (.int .u8)) (Kx K w.heap.size [some b_213, some b_44, some b_1]) x1)) [(eqv (.bool q_228), 73)] rfl rfl ?_ ?_
            · intro W_ hW
              by_cases hc2 : q_228 = true
              · have hl2 : q_228 = true := hc2
                have S1 := S
                intro v_424 hF_423; obtain rfl : .bool q_228 = v_424 := Eq.symm hF_423
                replace S1 := S1.put (by decide : 73 < 176) (.bool q_228)
                refine fill_nil S1 ?_; clear S1; intro a_ S1
                replace R1 := R1.step hW
                rw [show q_228 = true from hl2] at S1
                have S0 := S.defers; replace S := S1; clear S1
                refine wl_pure (l' := [(74, v1), (73, .bool true), (57, .bool (t_206.2 != 0)), (10, .int .i64 t_206.2), (9, .pointer (some (⟨b_213, 0, .none⟩ : Addr))), (1, v1)]) S tys tys_ok 1 (by kernel_rfl) ?_; clear S; intro a S
                refine wpList_nil ?_
                exact RPost.mk_ S rfl S0 ⟨fun _ => R1, fun k_ => absurd hc2 k_⟩ (Below.refl _ _)
              · have hl2 : q_228 = false := Bool.eq_false_iff.2 hc2
                have S1 := S
                intro v_426 hF_425; obtain rfl : .bool q_228 = v_426 := Eq.symm hF_425
                replace S1 := S1.put (by decide : 73 < 176) (.bool q_228)
                refine fill_nil S1 ?_; clear S1; intro a_ S1
                rw [show q_228 = false from hl2] at S1
                have S0 := S.defers; replace S := S1; clear S1
                refine wl_pure (l' := [(74, undef), (73, .bool false), (57, .bool (t_206.2 != 0)), (10, .int .i64 t_206.2), (9, .pointer (some (⟨b_213, 0, .none⟩ : Addr))), (1, v1)]) S tys tys_ok 1 (by kernel_rfl) ?_; clear S; intro a S
                refine wpList_nil ?_
                exact RPost.mk_ S rfl S0 ⟨fun k_ => absurd k_ hc2, fun _ => rfl⟩ (Below.refl _ _)
            refine RunAll.cons (cndF q_228 true (isEl (.int .u8) (Kx K w.heap.size [some b_213, some b_44, some b_1]) y_238)) [(cndF q_228 true (isRep (.sl (.int .u8)) (Kx K w.heap.size [some b_213, some b_44, some b_1]) x1), 74), (eqv (.bool q_228), 73)] rfl rfl ?_ ?_
            · intro W_ hW
              by_cases hc2 : q_228 = true
              · have hl2 : q_228 = true := hc2
                have S1 := S
                intro v_427 hF_428
                replace hF_428 := cndF.pos hF_428 hc2
                revert hF_428
                revert v_427
                intro v_430 hF_429; replace hF_429 : RepV _ _ _ _ _ := hF_429
                replace S1 := S1.put (by decide : 74 < 176) (v_430)
                intro v_432 hF_431; obtain rfl : .bool q_228 = v_432 := Eq.symm hF_431
                replace S1 := S1.put (by decide : 73 < 176) (.bool q_228)
                refine fill_nil S1 ?_; clear S1; intro a_ S1
                replace W := W.step hW
                rw [show q_228 = true from hl2] at S1
                have S0 := S.defers; replace S := S1; clear S1
                obtain ⟨ey_238, _⟩ := (HG_237).1 hc2
                refine w_go S rfl (op_indexAddr S rfl ty23 rfl rfl rfl hF_429 rfl ey_238 ?_)
                clear S; intro a p_433 R_434 H_435 S
                refine wpList_nil ?_
                exact RPost.mk_ S rfl S0 ⟨fun _ => ⟨_, rfl, R_434, H_435⟩, fun k_ => absurd hc2 k_⟩ (Below.refl _ _)
              · have hl2 : q_228 = false := Bool.eq_false_iff.2 hc2
                have S1 := S
                intro v_436 hF_437
                obtain rfl := cndF.neg hF_437 hc2
                replace S1 := S1.put (by decide : 74 < 176) (undef)
                intro v_439 hF_438; obtain rfl : .bool q_228 = v_439 := Eq.symm hF_438
                replace S1 := S1.put (by decide : 73 < 176) (.bool q_228)
                refine fill_nil S1 ?_; clear S1; intro a_ S1
                rw [show q_228 = false from hl2] at S1
                have S0 := S.defers; replace S := S1; clear S1
                refine wl_pure (l' := [(75, undef), (73, .bool false), (74, undef), (57, .bool (t_206.2 != 0)), (10, .int .i64 t_206.2), (9, .pointer (some (⟨b_213, 0, .none⟩ : Addr))), (1, v1)]) S tys tys_ok 1 (by kernel_rfl) ?_; clear S; intro a S
                refine wpList_nil ?_
                exact RPost.mk_ S rfl S0 ⟨fun k_ => absurd k_ hc2, fun _ => rfl⟩ (Below.refl _ _)
            refine RunAll.cons (cndF q_228 true (isI .u8 y_238)) [(cndF q_228 true (isEl (.int .u8) (Kx K w.heap.size [some b_213, some b_44, some b_1]) y_238), 75), (eqv (.bool q_228), 73)] rfl rfl ?_ ?_
            · intro W_ hW
              by_cases hc2 : q_228 = true
              · have hl2 : q_228 = true := hc2
                have S1 := S
                intro v_440 hF_441
                replace hF_441 := cndF.pos hF_441 hc2
                revert hF_441
                revert v_440
                rintro _ ⟨p_444, rfl, R_445, H_446⟩
                replace S1 := S1.put (by decide : 75 < 176) (.pointer (some p_444))
                intro v_448 hF_447; obtain rfl : .bool q_228 = v_448 := Eq.symm hF_447
                replace S1 := S1.put (by decide : 73 < 176) (.bool q_228)
                refine fill_nil S1 ?_; clear S1; intro a_ S1
                rw [show q_228 = true from hl2] at S1
                have S0 := S.defers; replace S := S1; clear S1
                obtain ⟨ey_238, _⟩ := (HG_237).1 hc2
                refine w_go S rfl (op_load (t := (.int .u8)) (x := y_238) S rfl ty5 rfl rfl rfl R_445 ?_)
                clear S; intro a v_449 R_450 S
                obtain ⟨rfl, GR_450⟩ := RepV.int R_450
                refine wpList_nil ?_
                exact RPost.mk_ S rfl S0 ⟨fun _ => ⟨rfl, GR_450⟩, fun k_ => absurd hc2 k_⟩ (Below.refl _ _)
              · have hl2 : q_228 = false := Bool.eq_false_iff.2 hc2
                have S1 := S
                intro v_451 hF_452
                obtain rfl := cndF.neg hF_452 hc2
                replace S1 := S1.put (by decide : 75 < 176) (undef)
                intro v_454 hF_453; obtain rfl : .bool q_228 = v_454 := Eq.symm hF_453
                replace S1 := S1.put (by decide : 73 < 176) (.bool q_228)
                refine fill_nil S1 ?_; clear S1; intro a_ S1
                rw [show q_228 = false from hl2] at S1
                have S0 := S.defers; replace S := S1; clear S1
                refine wl_pure (l' := [(76, undef), (73, .bool false), (75, undef), (57, .bool (t_206.2 != 0)), (10, .int .i64 t_206.2), (9, .pointer (some (⟨b_213, 0, .none⟩ : Addr))), (1, v1)]) S tys tys_ok 1 (by kernel_rfl) ?_; clear S; intro a S
                refine wpList_nil ?_
                exact RPost.mk_ S rfl S0 ⟨fun k_ => absurd k_ hc2, fun _ => rfl⟩ (Below.refl _ _)
            refine RunAll.cons (cndF q_228 true (eqv (.bool (decide (y_238 > 0))))) [(cndF q_228 true (isI .u8 y_238), 76), (eqv (.bool q_228), 73)] rfl rfl ?_ ?_
            · intro W_ hW
              by_cases hc2 : q_228 = true
              · have hl2 : q_228 = true := hc2
                have S1 := S
                intro v_455 hF_456
                replace hF_456 := cndF.pos hF_456 hc2
                revert hF_456
                revert v_455
                rintro _ ⟨rfl, hF_457⟩
                replace S1 := S1.put (by decide : 76 < 176) (.int .u8 y_238)
                intro v_460 hF_459; obtain rfl : .bool q_228 = v_460 := Eq.symm hF_459
                replace S1 := S1.put (by decide : 73 < 176) (.bool q_228)
                refine fill_nil S1 ?_; clear S1; intro a_ S1
                rw [show q_228 = true from hl2] at S1
                have S0 := S.defers; replace S := S1; clear S1
                refine wl_pure (l' := [(77, .bool (decide (y_238 > 0))), (73, .bool true), (76, .int .u8 y_238), (57, .bool (t_206.2 != 0)), (10, .int .i64 t_206.2), (9, .pointer (some (⟨b_213, 0, .none⟩ : Addr))), (1, v1)]) S tys tys_ok 1 (by kernel_rfl) ?_; clear S; intro a S
                refine wpList_nil ?_
                exact RPost.mk_ S rfl S0 ⟨fun _ => rfl, fun k_ => absurd hc2 k_⟩ (Below.refl _ _)
              · have hl2 : q_228 = false := Bool.eq_false_iff.2 hc2
                have S1 := S
                intro v_461 hF_462
                obtain rfl := cndF.neg hF_462 hc2
                replace S1 := S1.put (by decide : 76 < 176) (undef)
                intro v_464 hF_463; obtain rfl : .bool q_228 = v_464 := Eq.symm hF_463
                replace S1 := S1.put (by decide : 73 < 176) (.bool q_228)
                refine fill_nil S1 ?_; clear S1; intro a_ S1
                rw [show q_228 = false from hl2] at S1
                have S0 := S.defers; replace S := S1; clear S1
                refine wl_pure (l' := [(77, undef), (73, .bool false), (76, undef), (57, .bool (t_206.2 != 0)), (10, .int .i64 t_206.2), (9, .pointer (some (⟨b_213, 0, .none⟩ : Addr))), (1, v1)]) S tys tys_ok 1 (by kernel_rfl) ?_; clear S; intro a S
                refine wpList_nil ?_
                exact RPost.mk_ S rfl S0 ⟨fun k_ => absurd k_ hc2, fun _ => rfl⟩ (Below.refl _ _)
            refine RunAll.cons (eqv (.bool q_236)) [(eqv (.bool q_228), 73), (cndF q_228 true (eqv (.bool (decide (y_238 > 0)))), 77)] rfl rfl ?_ ?_
            · intro W_ hW
              by_cases hc2 : q_228 = true
              · have hl2 : q_228 = true := hc2
                have S1 := S
                intro v_466 hF_465; obtain rfl : .bool q_228 = v_466 := Eq.symm hF_465
                replace S1 := S1.put (by decide : 73 < 176) (.bool q_228)
                intro v_467 hF_468
                replace hF_468 := cndF.pos hF_468 hc2
                revert hF_468
                revert v_467
                intro v_470 hF_469; obtain rfl : .bool (decide (y_238 > 0)) = v_470 := Eq.symm hF_469
                replace S1 := S1.put (by decide : 77 < 176) (.bool (decide (y_238 > 0)))
                refine fill_nil S1 ?_; clear S1; intro a_ S1
                rw [show q_228 = true from hl2] at S1
                have S0 := S.defers; replace S := S1; clear S1
                refine wl_pure (l' := [(78, .bool (decide (y_238 > 0))), (77, .bool (decide (y_238 > 0))), (73, .bool true), (57, .bool (t_206.2 != 0)), (10, .int .i64 t_206.2), (9, .pointer (some (⟨b_213, 0, .none⟩ : Addr))), (1, v1)]) S tys tys_ok 1 (by kernel_rfl) ?_; clear S; intro a S
                refine wpList_nil ?_
                exact RPost.mk_ S rfl S0 (congrArg Value.bool ((HG_237).1 hc2).2) (Below.refl _ _)
              · have hl2 : q_228 = false := Bool.eq_false_iff.2 hc2
                have S1 := S
                intro v_472 hF_471; obtain rfl : .bool q_228 = v_472 := Eq.symm hF_471
                replace S1 := S1.put (by decide : 73 < 176) (.bool q_228)
                intro v_473 hF_474
                obtain rfl := cndF.neg hF_474 hc2
                replace S1 := S1.put (by decide : 77 < 176) (undef)
                refine fill_nil S1 ?_; clear S1; intro a_ S1
                rw [show q_228 = false from hl2] at S1
                have S0 := S.defers; replace S := S1; clear S1
                refine wl_pure (l' := [(78, .bool false), (77, undef), (73, .bool false), (57, .bool (t_206.2 != 0)), (10, .int .i64 t_206.2), (9, .pointer (some (⟨b_213, 0, .none⟩ : Addr))), (1, v1)]) S tys tys_ok 1 (by kernel_rfl) ?_; clear S; intro a S
                refine wpList_nil ?_
                exact RPost.mk_ S rfl S0 (congrArg Value.bool ((HG_237).2 hc2)) (Below.refl _ _)
            refine RunAll.cons (eqv (.bool q_236)) [(eqv (.bool q_236), 78)] rfl rfl ?_ ?_
            · intro W_ hW
              have S1 := S
              intro v_476 hF_475; obtain rfl : .bool q_236 = v_476 := Eq.symm hF_475
              replace S1 := S1.put (by decide : 78 < 176) (.bool q_236)
              refine fill_nil S1 ?_; clear S1; intro a_ S1
              have S0 := S.defers; replace S := S1; clear S1
              refine wl_pure (l' := [(79, .bool q_236), (78, .bool q_236), (57, .bool (t_206.2 != 0)), (10, .int .i64 t_206.2), (9, .pointer (some (⟨b_213, 0, .none⟩ : Addr))), (1, v1)]) S tys tys_ok 1 (by kernel_rfl) ?_; clear S; intro a S
              refine wpList_nil ?_
              exact RPost.mk_ S rfl S0 rfl (Below.refl _ _)
            refine RunAll.cons (cndF q_236 true (isRep (.sl (.int .u8)) (Kx K w.heap.size [some b_213, some b_44, some b_1]) x1)) [(eqv (.bool q_236), 79)] rfl rfl ?_ ?_
            · intro W_ hW
              by_cases hc3 : q_236 = true
              · have hl3 : q_236 = true := hc3
                have S1 := S
                intro v_478 hF_477; obtain rfl : .bool q_236 = v_478 := Eq.symm hF_477
                replace S1 := S1.put (by decide : 79 < 176) (.bool q_236)
                refine fill_nil S1 ?_; clear S1; intro a_ S1
                replace R1 := R1.step hW
                rw [show q_236 = true from hl3] at S1
                have S0 := S.defers; replace S := S1; clear S1
                refine wl_pure (l' := [(80, v1), (79, .bool true), (57, .bool (t_206.2 != 0)), (10, .int .i64 t_206.2), (9, .pointer (some (⟨b_213, 0, .none⟩ : Addr))), (1, v1)]) S tys tys_ok 1 (by kernel_rfl) ?_; clear S; intro a S
                refine wpList_nil ?_
                exact RPost.mk_ S rfl S0 ⟨fun _ => R1, fun k_ => absurd hc3 k_⟩ (Below.refl _ _)
              · have hl3 : q_236 = false := Bool.eq_false_iff.2 hc3
                have S1 := S
                intro v_480 hF_479; obtain rfl : .bool q_236 = v_480 := Eq.symm hF_479
                replace S1 := S1.put (by decide : 79 < 176) (.bool q_236)
                refine fill_nil S1 ?_; clear S1; intro a_ S1
                rw [show q_236 = false from hl3] at S1
                have S0 := S.defers; replace S := S1; clear S1
                refine wl_pure (l' := [(80, undef), (79, .bool false), (57, .bool (t_206.2 != 0)), (10, .int .i64 t_206.2), (9, .pointer (some (⟨b_213, 0, .none⟩ : Addr))), (1, v1)]) S tys tys_ok 1 (by kernel_rfl) ?_; clear S; intro a S
                refine wpList_nil ?_
                exact RPost.mk_ S rfl S0 ⟨fun k_ => absurd k_ hc3, fun _ => rfl⟩ (Below.refl _ _)
            refine RunAll.cons (cndF q_236 true (isEl (.int .u8) (Kx K w.heap.size [some b_213, some b_44, some b_1]) y_246)) [(cndF q_236 true (isRep (.sl (.int .u8)) (Kx K w.heap.size [some b_213, some b_44, some b_1]) x1), 80), (eqv (.bool q_236), 79)] rfl rfl ?_ ?_
            · intro W_ hW
              by_cases hc3 : q_236 = true
              · have hl3 : q_236 = true := hc3
                have S1 := S
                intro v_481 hF_482
                replace hF_482 := cndF.pos hF_482 hc3
                revert hF_482
                revert v_481
                intro v_484 hF_483; replace hF_483 : RepV _ _ _ _ _ := hF_483
                replace S1 := S1.put (by decide : 80 < 176) (v_484)
                intro v_486 hF_485; obtain rfl : .bool q_236 = v_486 := Eq.symm hF_485
                replace S1 := S1.put (by decide : 79 < 176) (.bool q_236)
                refine fill_nil S1 ?_; clear S1; intro a_ S1
                replace W := W.step hW
                rw [show q_236 = true from hl3] at S1
                have S0 := S.defers; replace S := S1; clear S1
                obtain ⟨ey_246, _⟩ := (HG_245).1 hc3
                refine w_go S rfl (op_indexAddr S rfl ty23 rfl rfl rfl hF_483 rfl ey_246 ?_)
                clear S; intro a p_487 R_488 H_489 S
                refine wpList_nil ?_
                exact RPost.mk_ S rfl S0 ⟨fun _ => ⟨_, rfl, R_488, H_489⟩, fun k_ => absurd hc3 k_⟩ (Below.refl _ _)
              · have hl3 : q_236 = false := Bool.eq_false_iff.2 hc3
                have S1 := S
                intro v_490 hF_491
                obtain rfl := cndF.neg hF_491 hc3
                replace S1 := S1.put (by decide : 80 < 176) (undef)
                intro v_493 hF_492; obtain rfl : .bool q_236 = v_493 := Eq.symm hF_492
                replace S1 := S1.put (by decide : 79 < 176) (.bool q_236)
                refine fill_nil S1 ?_; clear S1; intro a_ S1
                rw [show q_236 = false from hl3] at S1
                have S0 := S.defers; replace S := S1; clear S1
                refine wl_pure (l' := [(81, undef), (79, .bool false), (80, undef), (57, .bool (t_206.2 != 0)), (10, .int .i64 t_206.2), (9, .pointer (some (⟨b_213, 0, .none⟩ : Addr))), (1, v1)]) S tys tys_ok 1 (by kernel_rfl) ?_; clear S; intro a S
                refine wpList_nil ?_
                exact RPost.mk_ S rfl S0 ⟨fun k_ => absurd k_ hc3, fun _ => rfl⟩ (Below.refl _ _)
            refine RunAll.cons (cndF q_236 true (isI .u8 y_246)) [(cndF q_236 true (isEl (.int .u8) (Kx K w.heap.size [some b_213, some b_44, some b_1]) y_246), 81), (eqv (.bool q_236), 79)] rfl rfl ?_ ?_
            · intro W_ hW
              by_cases hc3 : q_236 = true
              · have hl3 : q_236 = true := hc3
                have S1 := S
                intro v_494 hF_495
                replace hF_495 := cndF.pos hF_495 hc3
                revert hF_495
                revert v_494
                rintro _ ⟨p_498, rfl, R_499, H_500⟩
                replace S1 := S1.put (by decide : 81 < 176) (.pointer (some p_498))
                intro v_502 hF_501; obtain rfl : .bool q_236 = v_502 := Eq.symm hF_501
                replace S1 := S1.put (by decide : 79 < 176) (.bool q_236)
                refine fill_nil S1 ?_; clear S1; intro a_ S1
                rw [show q_236 = true from hl3] at S1
                have S0 := S.defers; replace S := S1; clear S1
                obtain ⟨ey_246, _⟩ := (HG_245).1 hc3
                refine w_go S rfl (op_load (t := (.int .u8)) (x := y_246) S rfl ty5 rfl rfl rfl R_499 ?_)
                clear S; intro a v_503 R_504 S
                obtain ⟨rfl, GR_504⟩ := RepV.int R_504
                refine wpList_nil ?_
                exact RPost.mk_ S rfl S0 ⟨fun _ => ⟨rfl, GR_504⟩, fun k_ => absurd hc3 k_⟩ (Below.refl _ _)
              · have hl3 : q_236 = false := Bool.eq_false_iff.2 hc3
                have S1 := S
                intro v_505 hF_506
                obtain rfl := cndF.neg hF_506 hc3
                replace S1 := S1.put (by decide : 81 < 176) (undef)
                intro v_508 hF_507; obtain rfl : .bool q_236 = v_508 := Eq.symm hF_507
                replace S1 := S1.put (by decide : 79 < 176) (.bool q_236)
                refine fill_nil S1 ?_; clear S1; intro a_ S1
                rw [show q_236 = false from hl3] at S1
                have S0 := S.defers; replace S := S1; clear S1
                refine wl_pure (l' := [(82, undef), (79, .bool false), (81, undef), (57, .bool (t_206.2 != 0)), (10, .int .i64 t_206.2), (9, .pointer (some (⟨b_213, 0, .none⟩ : Addr))), (1, v1)]) S tys tys_ok 1 (by kernel_rfl) ?_; clear S; intro a S
                refine wpList_nil ?_
                exact RPost.mk_ S rfl S0 ⟨fun k_ => absurd k_ hc3, fun _ => rfl⟩ (Below.refl _ _)
            refine RunAll.cons (cndF q_236 true (eqv (.bool (decide (y_246 < 8))))) [(cndF q_236 true (isI .u8 y_246), 82), (eqv (.bool q_236), 79)] rfl rfl ?_ ?_
            · intro W_ hW
              by_cases hc3 : q_236 = true
              · have hl3 : q_236 = true := hc3
                have S1 := S
                intro v_509 hF_510
                replace hF_510 := cndF.pos hF_510 hc3
                revert hF_510
                revert v_509
                rintro _ ⟨rfl, hF_511⟩
                replace S1 := S1.put (by decide : 82 < 176) (.int .u8 y_246)
                intro v_514 hF_513; obtain rfl : .bool q_236 = v_514 := Eq.symm hF_513
                replace S1 := S1.put (by decide : 79 < 176) (.bool q_236)
                refine fill_nil S1 ?_; clear S1; intro a_ S1
                rw [show q_236 = true from hl3] at S1
                have S0 := S.defers; replace S := S1; clear S1
                refine wl_pure (l' := [(83, .bool (decide (y_246 < 8))), (79, .bool true), (82, .int .u8 y_246), (57, .bool (t_206.2 != 0)), (10, .int .i64 t_206.2), (9, .pointer (some (⟨b_213, 0, .none⟩ : Addr))), (1, v1)]) S tys tys_ok 1 (by kernel_rfl) ?_; clear S; intro a S
                refine wpList_nil ?_
                exact RPost.mk_ S rfl S0 ⟨fun _ => rfl, fun k_ => absurd hc3 k_⟩ (Below.refl _ _)
              · have hl3 : q_236 = false := Bool.eq_false_iff.2 hc3
                have S1 := S
                intro v_515 hF_516
                obtain rfl := cndF.neg hF_516 hc3
                replace S1 := S1.put (by decide : 82 < 176) (undef)
                intro v_518 hF_517; obtain rfl : .bool q_236 = v_518 := Eq.symm hF_517
                replace S1 := S1.put (by decide : 79 < 176) (.bool q_236)
                refine fill_nil S1 ?_; clear S1; intro a_ S1
                rw [show q_236 = false from hl3] at S1
                have S0 := S.defers; replace S := S1; clear S1
                refine wl_pure (l' := [(83, undef), (79, .bool false), (82, undef), (57, .bool (t_206.2 != 0)), (10, .int .i64 t_206.2), (9, .pointer (some (⟨b_213, 0, .none⟩ : Addr))), (1, v1)]) S tys tys_ok 1 (by kernel_rfl) ?_; clear S; intro a S
                refine wpList_nil ?_
                exact RPost.mk_ S rfl S0 ⟨fun k_ => absurd k_ hc3, fun _ => rfl⟩ (Below.refl _ _)
            refine RunAll.cons (eqv (.bool q_244)) [(eqv (.bool q_236), 79), (cndF q_236 true (eqv (.bool (decide (y_246 < 8)))), 83)] rfl rfl ?_ ?_
            · intro W_ hW
              by_cases hc3 : q_236 = true
              · have hl3 : q_236 = true := hc3
                have S1 := S
                intro v_520 hF_519; obtain rfl : .bool q_236 = v_520 := Eq.symm hF_519
                replace S1 := S1.put (by decide : 79 < 176) (.bool q_236)
                intro v_521 hF_522
                replace hF_522 := cndF.pos hF_522 hc3
                revert hF_522
                revert v_521
                intro v_524 hF_523; obtain rfl : .bool (decide (y_246 < 8)) = v_524 := Eq.symm hF_523
                replace S1 := S1.put (by decide : 83 < 176) (.bool (decide (y_246 < 8)))
                refine fill_nil S1 ?_; clear S1; intro a_ S1
                rw [show q_236 = true from hl3] at S1
                have S0 := S.defers; replace S := S1; clear S1
                refine wl_pure (l' := [(84, .bool (decide (y_246 < 8))), (83, .bool (decide (y_246 < 8))), (79, .bool true), (57, .bool (t_206.2 != 0)), (10, .int .i64 t_206.2), (9, .pointer (some (⟨b_213, 0, .none⟩ : Addr))), (1, v1)]) S tys tys_ok 1 (by kernel_rfl) ?_; clear S; intro a S
                refine wpList_nil ?_
                exact RPost.mk_ S rfl S0 (congrArg Value.bool ((HG_245).1 hc3).2) (Below.refl _ _)
              · have hl3 : q_236 = false := Bool.eq_false_iff.2 hc3
                have S1 := S
                intro v_526 hF_525; obtain rfl : .bool q_236 = v_526 := Eq.symm hF_525
                replace S1 := S1.put (by decide : 79 < 176) (.bool q_236)
                intro v_527 hF_528
                obtain rfl := cndF.neg hF_528 hc3
                replace S1 := S1.put (by decide : 83 < 176) (undef)
                refine fill_nil S1 ?_; clear S1; intro a_ S1
                rw [show q_236 = false from hl3] at S1
                have S0 := S.defers; replace S := S1; clear S1
                refine wl_pure (l' := [(84, .bool false), (83, undef), (79, .bool false), (57, .bool (t_206.2 != 0)), (10, .int .i64 t_206.2), (9, .pointer (some (⟨b_213, 0, .none⟩ : Addr))), (1, v1)]) S tys tys_ok 1 (by kernel_rfl) ?_; clear S; intro a S
                refine wpList_nil ?_
                exact RPost.mk_ S rfl S0 (congrArg Value.bool ((HG_245).2 hc3)) (Below.refl _ _)
            refine RunAll.cons (eqv (.bool q_244)) [(eqv (.bool q_244), 84)] rfl rfl ?_ ?_
            · intro W_ hW
              have S1 := S
              intro v_530 hF_529; obtain rfl : .bool q_244 = v_530 := Eq.symm hF_529
              replace S1 := S1.put (by decide : 84 < 176) (.bool q_244)
              refine fill_nil S1 ?_; clear S1; intro a_ S1
              have S0 := S.defers; replace S := S1; clear S1
              refine wl_pure (l' := [(85, .bool q_244), (84, .bool q_244), (57, .bool (t_206.2 != 0)), (10, .int .i64 t_206.2), (9, .pointer (some (⟨b_213, 0, .none⟩ : Addr))), (1, v1)]) S tys tys_ok 1 (by kernel_rfl) ?_; clear S; intro a S
              refine wpList_nil ?_
              exact RPost.mk_ S rfl S0 rfl (Below.refl _ _)
            refine RunAll.cons (cndF q_244 true (isRep (.sl (.int .u8)) (Kx K w.heap.size [some b_213, some b_44, some b_1]) x1)) [(eqv (.bool q_244), 85)] rfl rfl ?_ ?_
            · intro W_ hW
              by_cases hc4 : q_244 = true
              · have hl4 : q_244 = true := hc4
                have S1 := S
                intro v_532 hF_531; obtain rfl : .bool q_244 = v_532 := Eq.symm hF_531
                replace S1 := S1.put (by decide : 85 < 176) (.bool q_244)
                refine fill_nil S1 ?_; clear S1; intro a_ S1
                replace R1 := R1.step hW
                rw [show q_244 = true from hl4] at S1
                have S0 := S.defers; replace S := S1; clear S1
                refine wl_pure (l' := [(86, v1), (85, .bool true), (57, .bool (t_206.2 != 0)), (10, .int .i64 t_206.2), (9, .pointer (some (⟨b_213, 0, .none⟩ : Addr))), (1, v1)]) S tys tys_ok 1 (by kernel_rfl) ?_; clear S; intro a S
                refine wpList_nil ?_
                exact RPost.mk_ S rfl S0 ⟨fun _ => R1, fun k_ => absurd hc4 k_⟩ (Below.refl _ _)
              · have hl4 : q_244 = false := Bool.eq_false_iff.2 hc4
                have S1 := S
                intro v_534 hF_533; obtain rfl : .bool q_244 = v_534 := Eq.symm hF_533
                replace S1 := S1.put (by decide : 85 < 176) (.bool q_244)
                refine fill_nil S1 ?_; clear S1; intro a_ S1
                rw [show q_244 = false from hl4] at S1
                have S0 := S.defers; replace S := S1; clear S1
                refine wl_pure (l' := [(86, undef), (85, .bool false), (57, .bool (t_206.2 != 0)), (10, .int .i64 t_206.2), (9, .pointer (some (⟨b_213, 0, .none⟩ : Addr))), (1, v1)]) S tys tys_ok 1 (by kernel_rfl) ?_; clear S; intro a S
                refine wpList_nil ?_
                exact RPost.mk_ S rfl S0 ⟨fun k_ => absurd k_ hc4, fun _ => rfl⟩ (Below.refl _ _)
            refine RunAll.cons (cndF q_244 true (isEl (.int .u8) (Kx K w.heap.size [some b_213, some b_44, some b_1]) y_254)) [(cndF q_244 true (isRep (.sl (.int .u8)) (Kx K w.heap.size [some b_213, some b_44, some b_1]) x1), 86), (eqv (.bool q_244), 85)] rfl rfl ?_ ?_
            · intro W_ hW
              by_cases hc4 : q_244 = true
              · have hl4 : q_244 = true := hc4
                have S1 := S
                intro v_535 hF_536
                replace hF_536 := cndF.pos hF_536 hc4
                revert hF_536
                revert v_535
                intro v_538 hF_537; replace hF_537 : RepV _ _ _ _ _ := hF_537
                replace S1 := S1.put (by decide : 86 < 176) (v_538)
                intro v_540 hF_539; obtain rfl : .bool q_244 = v_540 := Eq.symm hF_539
                replace S1 := S1.put (by decide : 85 < 176) (.bool q_244)
                refine fill_nil S1 ?_; clear S1; intro a_ S1
                replace W := W.step hW
                rw [show q_244 = true from hl4] at S1
                have S0 := S.defers; replace S := S1; clear S1
                obtain ⟨ey_254, _⟩ := (HG_253).1 hc4
                refine w_go S rfl (op_indexAddr S rfl ty23 rfl rfl rfl hF_537 rfl ey_254 ?_)
                clear S; intro a p_541 R_542 H_543 S
                refine wpList_nil ?_
                exact RPost.mk_ S rfl S0 ⟨fun _ => ⟨_, rfl, R_542, H_543⟩, fun k_ => absurd hc4 k_⟩ (Below.refl _ _)
              · have hl4 : q_244 = false := Bool.eq_false_iff.2 hc4
                have S1 := S
                intro v_544 hF_545
                obtain rfl := cndF.neg hF_545 hc4
                replace S1 := S1.put (by decide : 86 < 176) (undef)
                intro v_547 hF_546; obtain rfl : .bool q_244 = v_547 := Eq.symm hF_546
                replace S1 := S1.put (by decide : 85 < 176) (.bool q_244)
                refine fill_nil S1 ?_; clear S1; intro a_ S1
                rw [show q_244 = false from hl4] at S1
                have S0 := S.defers; replace S := S1; clear S1
                refine wl_pure (l' := [(87, undef), (85, .bool false), (86, undef), (57, .bool (t_206.2 != 0)), (10, .int .i64 t_206.2), (9, .pointer (some (⟨b_213, 0, .none⟩ : Addr))), (1, v1)]) S tys tys_ok 1 (by kernel_rfl) ?_; clear S; intro a S
                refine wpList_nil ?_
                exact RPost.mk_ S rfl S0 ⟨fun k_ => absurd k_ hc4, fun _ => rfl⟩ (Below.refl _ _)
            refine RunAll.cons (cndF q_244 true (isI .u8 y_254)) [(cndF q_244 true (isEl (.int .u8) (Kx K w.heap.size [some b_213, some b_44, some b_1]) y_254), 87), (eqv (.bool q_244), 85)] rfl rfl ?_ ?_
            · intro W_ hW
              by_cases hc4 : q_244 = true
              · have hl4 : q_244 = true := hc4
                have S1 := S
                intro v_548 hF_549
                replace hF_549 := cndF.pos hF_549 hc4
                revert hF_549
                revert v_548
                rintro _ ⟨p_552, rfl, R_553, H_554⟩
                replace S1 := S1.put (by decide : 87 < 176) (.pointer (some p_552))
                intro v_556 hF_555; obtain rfl : .bool q_244 = v_556 := Eq.symm hF_555
                replace S1 := S1.put (by decide : 85 < 176) (.bool q_244)
                refine fill_nil S1 ?_; clear S1; intro a_ S1
                rw [show q_244 = true from hl4] at S1
                have S0 := S.defers; replace S := S1; clear S1
                obtain ⟨ey_254, _⟩ := (HG_253).1 hc4
                refine w_go S rfl (op_load (t := (.int .u8)) (x := y_254) S rfl ty5 rfl rfl rfl R_553 ?_)
                clear S; intro a v_557 R_558 S
                obtain ⟨rfl, GR_558⟩ := RepV.int R_558
                refine wpList_nil ?_
                exact RPost.mk_ S rfl S0 ⟨fun _ => ⟨rfl, GR_558⟩, fun k_ => absurd hc4 k_⟩ (Below.refl _ _)
              · have hl4 : q_244 = false := Bool.eq_false_iff.2 hc4
                have S1 := S
                intro v_559 hF_560
                obtain rfl := cndF.neg hF_560 hc4
                replace S1 := S1.put (by decide : 87 < 176) (undef)
                intro v_562 hF_561; obtain rfl : .bool q_244 = v_562 := Eq.symm hF_561
                replace S1 := S1.put (by decide : 85 < 176) (.bool q_244)
                refine fill_nil S1 ?_; clear S1; intro a_ S1
                rw [show q_244 = false from hl4] at S1
                have S0 := S.defers; replace S := S1; clear S1
                refine wl_pure (l' := [(88, undef), (85, .bool false), (87, undef), (57, .bool (t_206.2 != 0)), (10, .int .i64 t_206.2), (9, .pointer (some (⟨b_213, 0, .none⟩ : Addr))), (1, v1)]) S tys tys_ok 1 (by kernel_rfl) ?_; clear S; intro a S
                refine wpList_nil ?_
                exact RPost.mk_ S rfl S0 ⟨fun k_ => absurd k_ hc4, fun _ => rfl⟩ (Below.refl _ _)
            refine RunAll.cons (cndF q_244 true (eqv (.bool (y_254 == 9)))) [(cndF q_244 true (isI .u8 y_254), 88), (eqv (.bool q_244), 85)] rfl rfl ?_ ?_
            · intro W_ hW
              by_cases hc4 : q_244 = true
              · have hl4 : q_244 = true := hc4
                have S1 := S
                intro v_563 hF_564
                replace hF_564 := cndF.pos hF_564 hc4
                revert hF_564
                revert v_563
                rintro _ ⟨rfl, hF_565⟩
                replace S1 := S1.put (by decide : 88 < 176) (.int .u8 y_254)
                intro v_568 hF_567; obtain rfl : .bool q_244 = v_568 := Eq.symm hF_567
                replace S1 := S1.put (by decide : 85 < 176) (.bool q_244)
                refine fill_nil S1 ?_; clear S1; intro a_ S1
                rw [show q_244 = true from hl4] at S1
                have S0 := S.defers; replace S := S1; clear S1
                refine wl_pure (l' := [(89, .bool (y_254 == 9)), (85, .bool true), (88, .int .u8 y_254), (57, .bool (t_206.2 != 0)), (10, .int .i64 t_206.2), (9, .pointer (some (⟨b_213, 0, .none⟩ : Addr))), (1, v1)]) S tys tys_ok 1 (by kernel_rfl) ?_; clear S; intro a S
                refine wpList_nil ?_
                exact RPost.mk_ S rfl S0 ⟨fun _ => rfl, fun k_ => absurd hc4 k_⟩ (Below.refl _ _)
              · have hl4 : q_244 = false := Bool.eq_false_iff.2 hc4
                have S1 := S
                intro v_569 hF_570
                obtain rfl := cndF.neg hF_570 hc4
                replace S1 := S1.put (by decide : 88 < 176) (undef)
                intro v_572 hF_571; obtain rfl : .bool q_244 = v_572 := Eq.symm hF_571
                replace S1 := S1.put (by decide : 85 < 176) (.bool q_244)
                refine fill_nil S1 ?_; clear S1; intro a_ S1
                rw [show q_244 = false from hl4] at S1
                have S0 := S.defers; replace S := S1; clear S1
                refine wl_pure (l' := [(89, undef), (85, .bool false), (88, undef), (57, .bool (t_206.2 != 0)), (10, .int .i64 t_206.2), (9, .pointer (some (⟨b_213, 0, .none⟩ : Addr))), (1, v1)]) S tys tys_ok 1 (by kernel_rfl) ?_; clear S; intro a S
                refine wpList_nil ?_
                exact RPost.mk_ S rfl S0 ⟨fun k_ => absurd k_ hc4, fun _ => rfl⟩ (Below.refl _ _)
            refine RunAll.cons (eqv (.bool q_252)) [(eqv (.bool q_244), 85), (cndF q_244 true (eqv (.bool (y_254 == 9))), 89)] rfl rfl ?_ ?_
            · intro W_ hW
              by_cases hc4 : q_244 = true
              · have hl4 : q_244 = true := hc4
                have S1 := S
                intro v_574 hF_573; obtain rfl : .bool q_244 = v_574 := Eq.symm hF_573
                replace S1 := S1.put (by decide : 85 < 176) (.bool q_244)
                intro v_575 hF_576
                replace hF_576 := cndF.pos hF_576 hc4
                revert hF_576
                revert v_575
                intro v_578 hF_577; obtain rfl : .bool (y_254 == 9) = v_578 := Eq.symm hF_577
                replace S1 := S1.put (by decide : 89 < 176) (.bool (y_254 == 9))
                refine fill_nil S1 ?_; clear S1; intro a_ S1
                rw [show q_244 = true from hl4] at S1
                have S0 := S.defers; replace S := S1; clear S1
                refine wl_pure (l' := [(90, .bool (y_254 == 9)), (89, .bool (y_254 == 9)), (85, .bool true), (57, .bool (t_206.2 != 0)), (10, .int .i64 t_206.2), (9, .pointer (some (⟨b_213, 0, .none⟩ : Addr))), (1, v1)]) S tys tys_ok 1 (by kernel_rfl) ?_; clear S; intro a S
                refine wpList_nil ?_
                exact RPost.mk_ S rfl S0 (congrArg Value.bool ((HG_253).1 hc4).2) (Below.refl _ _)
              · have hl4 : q_244 = false := Bool.eq_false_iff.2 hc4
                have S1 := S
                intro v_580 hF_579; obtain rfl : .bool q_244 = v_580 := Eq.symm hF_579
                replace S1 := S1.put (by decide : 85 < 176) (.bool q_244)
                intro v_581 hF_582
                obtain rfl := cndF.neg hF_582 hc4
                replace S1 := S1.put (by decide : 89 < 176) (undef)
                refine fill_nil S1 ?_; clear S1; intro a_ S1
                rw [show q_244 = false from hl4] at S1
                have S0 := S.defers; replace S := S1; clear S1
                refine wl_pure (l' := [(90, .bool false), (89, undef), (85, .bool false), (57, .bool (t_206.2 != 0)), (10, .int .i64 t_206.2), (9, .pointer (some (⟨b_213, 0, .none⟩ : Addr))), (1, v1)]) S tys tys_ok 1 (by kernel_rfl) ?_; clear S; intro a S
                refine wpList_nil ?_
                exact RPost.mk_ S rfl S0 (congrArg Value.bool ((HG_253).2 hc4)) (Below.refl _ _)
            refine RunAll.cons (eqv (.bool q_252)) [(eqv (.bool q_252), 90)] rfl rfl ?_ ?_
            · intro W_ hW
              have S1 := S
              intro v_584 hF_583; obtain rfl : .bool q_252 = v_584 := Eq.symm hF_583
              replace S1 := S1.put (by decide : 90 < 176) (.bool q_252)
              refine fill_nil S1 ?_; clear S1; intro a_ S1
              have S0 := S.defers; replace S := S1; clear S1
              refine wl_pure (l' := [(91, .bool q_252), (90, .bool q_252), (57, .bool (t_206.2 != 0)), (10, .int .i64 t_206.2), (9, .pointer (some (⟨b_213, 0, .none⟩ : Addr))), (1, v1)]) S tys tys_ok 1 (by kernel_rfl) ?_; clear S; intro a S
              refine wpList_nil ?_
              exact RPost.mk_ S rfl S0 rfl (Below.refl _ _)
            refine RunAll.cons (cndF q_252 true (isRep (.sl (.int .u8)) (Kx K w.heap.size [some b_213, some b_44, some b_1]) x1)) [(eqv (.bool q_252), 91)] rfl rfl ?_ ?_
            · intro W_ hW
              by_cases hc5 : q_252 = true
              · have hl5 : q_252 = true := hc5
                have S1 := S
                intro v_586 hF_585; obtain rfl : .bool q_252 = v_586 := Eq.symm hF_585
                replace S1 := S1.put (by decide : 91 < 176) (.bool q_252)
                refine fill_nil S1 ?_; clear S1; intro a_ S1
                replace R1 := R1.step hW
                rw [show q_252 = true from hl5] at S1
                have S0 := S.defers; replace S := S1; clear S1
                refine wl_pure (l' := [(92, v1), (91, .bool true), (57, .bool (t_206.2 != 0)), (10, .int .i64 t_206.2), (9, .pointer (some (⟨b_213, 0, .none⟩ : Addr))), (1, v1)]) S tys tys_ok 1 (by kernel_rfl) ?_; clear S; intro a S
                refine wpList_nil ?_
                exact RPost.mk_ S rfl S0 ⟨fun _ => R1, fun k_ => absurd hc5 k_⟩ (Below.refl _ _)
              · have hl5 : q_252 = false := Bool.eq_false_iff.2 hc5
                have S1 := S
                intro v_588 hF_587; obtain rfl : .bool q_252 = v_588 := Eq.symm hF_587
                replace S1 := S1.put (by decide : 91 < 176) (.bool q_252)
                refine fill_nil S1 ?_; clear S1; intro a_ S1
                rw [show q_252 = false from hl5] at S1
                have S0 := S.defers; replace S := S1; clear S1
                refine wl_pure (l' := [(92, undef), (91, .bool false), (57, .bool (t_206.2 != 0)), (10, .int .i64 t_206.2), (9, .pointer (some (⟨b_213, 0, .none⟩ : Addr))), (1, v1)]) S tys tys_ok 1 (by kernel_rfl) ?_; clear S; intro a S
                refine wpList_nil ?_
                exact RPost.mk_ S rfl S0 ⟨fun k_ => absurd k_ hc5, fun _ => rfl⟩ (Below.refl _ _)
            refine RunAll.cons (cndF q_252 true (isEl (.int .u8) (Kx K w.heap.size [some b_213, some b_44, some b_1]) y_262)) [(cndF q_252 true (isRep (.sl (.int .u8)) (Kx K w.heap.size [some b_213, some b_44, some b_1]) x1), 92), (eqv (.bool q_252), 91)] rfl rfl ?_ ?_
            · intro W_ hW
              by_cases hc5 : q_252 = true
              · have hl5 : q_252 = true := hc5
                have S1 := S
                intro v_589 hF_590
                replace hF_590 := cndF.pos hF_590 hc5
                revert hF_590
                revert v_589
                intro v_592 hF_591; replace hF_591 : RepV _ _ _ _ _ := hF_591
                replace S1 := S1.put (by decide : 92 < 176) (v_592)
                intro v_594 hF_593; obtain rfl : .bool q_252 = v_594 := Eq.symm hF_593
                replace S1 := S1.put (by decide : 91 < 176) (.bool q_252)
                refine fill_nil S1 ?_; clear S1; intro a_ S1
                replace W := W.step hW
                rw [show q_252 = true from hl5] at S1
                have S0 := S.defers; replace S := S1; clear S1
                obtain ⟨ey_262, _⟩ := (HG_261).1 hc5
                refine w_go S rfl (op_indexAddr S rfl ty23 rfl rfl rfl hF_591 rfl ey_262 ?_)
                clear S; intro a p_595 R_596 H_597 S
                refine wpList_nil ?_
                exact RPost.mk_ S rfl S0 ⟨fun _ => ⟨_, rfl, R_596, H_597⟩, fun k_ => absurd hc5 k_⟩ (Below.refl _ _)
              · have hl5 : q_252 = false := Bool.eq_false_iff.2 hc5
                have S1 := S
                intro v_598 hF_599
                obtain rfl := cndF.neg hF_599 hc5
                replace S1 := S1.put (by decide : 92 < 176) (undef)
                intro v_601 hF_600; obtain rfl : .bool q_252 = v_601 := Eq.symm hF_600
                replace S1 := S1.put (by decide : 91 < 176) (.bool q_252)
                refine fill_nil S1 ?_; clear S1; intro a_ S1
                rw [show q_252 = false from hl5] at S1
                have S0 := S.defers; replace S := S1; clear S1
                refine wl_pure (l' := [(93, undef), (91, .bool false), (92, undef), (57, .bool (t_206.2 != 0)), (10, .int .i64 t_206.2), (9, .pointer (some (⟨b_213, 0, .none⟩ : Addr))), (1, v1)]) S tys tys_ok 1 (by kernel_rfl) ?_; clear S; intro a S
                refine wpList_nil ?_
                exact RPost.mk_ S rfl S0 ⟨fun k_ => absurd k_ hc5, fun _ => rfl⟩ (Below.refl _ _)
            refine RunAll.cons (cndF q_252 true (isI .u8 y_262)) [(cndF q_252 true (isEl (.int .u8) (Kx K w.heap.size [some b_213, some b_44, some b_1]) y_262), 93), (eqv (.bool q_252), 91)] rfl rfl ?_ ?_
            · intro W_ hW
              by_cases hc5 : q_252 = true
              · have hl5 : q_252 = true := hc5
                have S1 := S
                intro v_602 hF_603
                replace hF_603 := cndF.pos hF_603 hc5
                revert hF_603
                revert v_602
                rintro _ ⟨p_606, rfl, R_607, H_608⟩
                replace S1 := S1.put (by decide : 93 < 176) (.pointer (some p_606))
                intro v_610 hF_609; obtain rfl : .bool q_252 = v_610 := Eq.symm hF_609
                replace S1 := S1.put (by decide : 91 < 176) (.bool q_252)
                refine fill_nil S1 ?_; clear S1; intro a_ S1
                rw [show q_252 = true from hl5] at S1
                have S0 := S.defers; replace S := S1; clear S1
                obtain ⟨ey_262, _⟩ := (HG_261).1 hc5
                refine w_go S rfl (op_load (t := (.int .u8)) (x := y_262) S rfl ty5 rfl rfl rfl R_607 ?_)
                clear S; intro a v_611 R_612 S
                obtain ⟨rfl, GR_612⟩ := RepV.int R_612
                refine wpList_nil ?_
                exact RPost.mk_ S rfl S0 ⟨fun _ => ⟨rfl, GR_612⟩, fun k_ => absurd hc5 k_⟩ (Below.refl _ _)
              · have hl5 : q_252 = false := Bool.eq_false_iff.2 hc5
                have S1 := S
                intro v_613 hF_614
                obtain rfl := cndF.neg hF_614 hc5
                replace S1 := S1.put (by decide : 93 < 176) (undef)
                intro v_616 hF_615; obtain rfl : .bool q_252 = v_616 := Eq.symm hF_615
                replace S1 := S1.put (by decide : 91 < 176) (.bool q_252)
                refine fill_nil S1 ?_; clear S1; intro a_ S1
                rw [show q_252 = false from hl5] at S1
                have S0 := S.defers; replace S := S1; clear S1
                refine wl_pure (l' := [(94, undef), (91, .bool false), (93, undef), (57, .bool (t_206.2 != 0)), (10, .int .i64 t_206.2), (9, .pointer (some (⟨b_213, 0, .none⟩ : Addr))), (1, v1)]) S tys tys_ok 1 (by kernel_rfl) ?_; clear S; intro a S
                refine wpList_nil ?_
                exact RPost.mk_ S rfl S0 ⟨fun k_ => absurd k_ hc5, fun _ => rfl⟩ (Below.refl _ _)
            refine RunAll.cons (cndF q_252 true (eqv (.bool (y_262 == 0)))) [(cndF q_252 true (isI .u8 y_262), 94), (eqv (.bool q_252), 91)] rfl rfl ?_ ?_
            · intro W_ hW
              by_cases hc5 : q_252 = true
              · have hl5 : q_252 = true := hc5
                have S1 := S
                intro v_617 hF_618
                replace hF_618 := cndF.pos hF_618 hc5
                revert hF_618
                revert v_617
                rintro _ ⟨rfl, hF_619⟩
                replace S1 := S1.put (by decide : 94 < 176) (.int .u8 y_262)
                intro v_622 hF_621; obtain rfl : .bool q_252 = v_622 := Eq.symm hF_621
                replace S1 := S1.put (by decide : 91 < 176) (.bool q_252)
                refine fill_nil S1 ?_; clear S1; intro a_ S1
                rw [show q_252 = true from hl5] at S1
                have S0 := S.defers; replace S := S1; clear S1
                refine wl_pure (l' := [(95, .bool (y_262 == 0)), (91, .bool true), (94, .int .u8 y_262), (57, .bool (t_206.2 != 0)), (10, .int .i64 t_206.2), (9, .pointer (some (⟨b_213, 0, .none⟩ : Addr))), (1, v1)]) S tys tys_ok 1 (by kernel_rfl) ?_; clear S; intro a S
                refine wpList_nil ?_
                exact RPost.mk_ S rfl S0 ⟨fun _ => rfl, fun k_ => absurd hc5 k_⟩ (Below.refl _ _)
              · have hl5 : q_252 = false := Bool.eq_false_iff.2 hc5
                have S1 := S
                intro v_623 hF_624
                obtain rfl := cndF.neg hF_624 hc5
                replace S1 := S1.put (by decide : 94 < 176) (undef)
                intro v_626 hF_625; obtain rfl : .bool q_252 = v_626 := Eq.symm hF_625
                replace S1 := S1.put (by decide : 91 < 176) (.bool q_252)
                refine fill_nil S1 ?_; clear S1; intro a_ S1
                rw [show q_252 = false from hl5] at S1
                have S0 := S.defers; replace S := S1; clear S1
                refine wl_pure (l' := [(95, undef), (91, .bool false), (94, undef), (57, .bool (t_206.2 != 0)), (10, .int .i64 t_206.2), (9, .pointer (some (⟨b_213, 0, .none⟩ : Addr))), (1, v1)]) S tys tys_ok 1 (by kernel_rfl) ?_; clear S; intro a S
                refine wpList_nil ?_
                exact RPost.mk_ S rfl S0 ⟨fun k_ => absurd k_ hc5, fun _ => rfl⟩ (Below.refl _ _)
            refine RunAll.cons (eqv (.bool q_260)) [(eqv (.bool q_252), 91), (cndF q_252 true (eqv (.bool (y_262 == 0))), 95)] rfl rfl ?_ ?_
            · intro W_ hW
              by_cases hc5 : q_252 = true
              · have hl5 : q_252 = true := hc5
                have S1 := S
                intro v_628 hF_627; obtain rfl : .bool q_252 = v_628 := Eq.symm hF_627
                replace S1 := S1.put (by decide : 91 < 176) (.bool q_252)
                intro v_629 hF_630
                replace hF_630 := cndF.pos hF_630 hc5
                revert hF_630
                revert v_629
                intro v_632 hF_631; obtain rfl : .bool (y_262 == 0) = v_632 := Eq.symm hF_631
                replace S1 := S1.put (by decide : 95 < 176) (.bool (y_262 == 0))
                refine fill_nil S1 ?_; clear S1; intro a_ S1
                rw [show q_252 = true from hl5] at S1
                have S0 := S.defers; replace S := S1; clear S1
                refine wl_pure (l' := [(96, .bool (y_262 == 0)), (95, .bool (y_262 == 0)), (91, .bool true), (57, .bool (t_206.2 != 0)), (10, .int .i64 t_206.2), (9, .pointer (some (⟨b_213, 0, .none⟩ : Addr))), (1, v1)]) S tys tys_ok 1 (by kernel_rfl) ?_; clear S; intro a S
                refine wpList_nil ?_
                exact RPost.mk_ S rfl S0 (congrArg Value.bool ((HG_261).1 hc5).2) (Below.refl _ _)
              · have hl5 : q_252 = false := Bool.eq_false_iff.2 hc5
                have S1 := S
                intro v_634 hF_633; obtain rfl : .bool q_252 = v_634 := Eq.symm hF_633
                replace S1 := S1.put (by decide : 91 < 176) (.bool q_252)
                intro v_635 hF_636
                obtain rfl := cndF.neg hF_636 hc5
                replace S1 := S1.put (by decide : 95 < 176) (undef)
                refine fill_nil S1 ?_; clear S1; intro a_ S1
                rw [show q_252 = false from hl5] at S1
                have S0 := S.defers; replace S := S1; clear S1
                refine wl_pure (l' := [(96, .bool false), (95, undef), (91, .bool false), (57, .bool (t_206.2 != 0)), (10, .int .i64 t_206.2), (9, .pointer (some (⟨b_213, 0, .none⟩ : Addr))), (1, v1)]) S tys tys_ok 1 (by kernel_rfl) ?_; clear S; intro a S
                refine wpList_nil ?_
                exact RPost.mk_ S rfl S0 (congrArg Value.bool ((HG_261).2 hc5)) (Below.refl _ _)
            refine RunAll.cons (eqv (.bool q_260)) [(eqv (.bool q_260), 96)] rfl rfl ?_ ?_
            · intro W_ hW
              have S1 := S
              intro v_638 hF_637; obtain rfl : .bool q_260 = v_638 := Eq.symm hF_637
              replace S1 := S1.put (by decide : 96 < 176) (.bool q_260)
              refine fill_nil S1 ?_; clear S1; intro a_ S1
              have S0 := S.defers; replace S := S1; clear S1
              refine wl_pure (l' := [(97, .bool q_260), (96, .bool q_260), (57, .bool (t_206.2 != 0)), (10, .int .i64 t_206.2), (9, .pointer (some (⟨b_213, 0, .none⟩ : Addr))), (1, v1)]) S tys tys_ok 1 (by kernel_rfl) ?_; clear S; intro a S
              refine wpList_nil ?_
              exact RPost.mk_ S rfl S0 rfl (Below.refl _ _)
            refine RunAll.cons (cndF q_260 true (isRep (.sl (.int .u8)) (Kx K w.heap.size [some b_213, some b_44, some b_1]) x1)) [(eqv (.bool q_260), 97)] rfl rfl ?_ ?_
            · intro W_ hW
              by_cases hc6 : q_260 = true
              · have hl6 : q_260 = true := hc6
                have S1 := S
                intro v_640 hF_639; obtain rfl : .bool q_260 = v_640 := Eq.symm hF_639
                replace S1 := S1.put (by decide : 97 < 176) (.bool q_260)
                refine fill_nil S1 ?_; clear S1; intro a_ S1
                replace R1 := R1.step hW
                rw [show q_260 = true from hl6] at S1
                have S0 := S.defers; replace S := S1; clear S1
                refine wl_pure (l' := [(98, v1), (97, .bool true), (57, .bool (t_206.2 != 0)), (10, .int .i64 t_206.2), (9, .pointer (some (⟨b_213, 0, .none⟩ : Addr))), (1, v1)]) S tys tys_ok 1 (by kernel_rfl) ?_; clear S; intro a S
                refine wpList_nil ?_
                exact RPost.mk_ S rfl S0 ⟨fun _ => R1, fun k_ => absurd hc6 k_⟩ (Below.refl _ _)
              · have hl6 : q_260 = false := Bool.eq_false_iff.2 hc6
                have S1 := S
                intro v_642 hF_641; obtain rfl : .bool q_260 = v_642 := Eq.symm hF_641
                replace S1 := S1.put (by decide : 97 < 176) (.bool q_260)
                refine fill_nil S1 ?_; clear S1; intro a_ S1
                rw [show q_260 = false from hl6] at S1
                have S0 := S.defers; replace S := S1; clear S1
                refine wl_pure (l' := [(98, undef), (97, .bool false), (57, .bool (t_206.2 != 0)), (10, .int .i64 t_206.2), (9, .pointer (some (⟨b_213, 0, .none⟩ : Addr))), (1, v1)]) S tys tys_ok 1 (by kernel_rfl) ?_; clear S; intro a S
                refine wpList_nil ?_
                exact RPost.mk_ S rfl S0 ⟨fun k_ => absurd k_ hc6, fun _ => rfl⟩ (Below.refl _ _)
            refine RunAll.cons (cndF q_260 true (isEl (.int .u8) (Kx K w.heap.size [some b_213, some b_44, some b_1]) y_270)) [(cndF q_260 true (isRep (.sl (.int .u8)) (Kx K w.heap.size [some b_213, some b_44, some b_1]) x1), 98), (eqv (.bool q_260), 97)] rfl rfl ?_ ?_
            · intro W_ hW
              by_cases hc6 : q_260 = true
              · have hl6 : q_260 = true := hc6
                have S1 := S
                intro v_643 hF_644
                replace hF_644 := cndF.pos hF_644 hc6
                revert hF_644
                revert v_643
                intro v_646 hF_645; replace hF_645 : RepV _ _ _ _ _ := hF_645
                replace S1 := S1.put (by decide : 98 < 176) (v_646)
                intro v_648 hF_647; obtain rfl : .bool q_260 = v_648 := Eq.symm hF_647
                replace S1 := S1.put (by decide : 97 < 176) (.bool q_260)
                refine fill_nil S1 ?_; clear S1; intro a_ S1
                replace W := W.step hW
                rw [show q_260 = true from hl6] at S1
                have S0 := S.defers; replace S := S1; clear S1
                obtain ⟨ey_270, ex_276, _⟩ := (HG_269).1 hc6
                refine w_go S rfl (op_indexAddr S rfl ty23 rfl rfl rfl hF_645 rfl ey_270 ?_)
                clear S; intro a p_649 R_650 H_651 S
                refine wpList_nil ?_
                exact RPost.mk_ S rfl S0 ⟨fun _ => ⟨_, rfl, R_650, H_651⟩, fun k_ => absurd hc6 k_⟩ (Below.refl _ _)
              · have hl6 : q_260 = false := Bool.eq_false_iff.2 hc6
                have S1 := S
                intro v_652 hF_653
                obtain rfl := cndF.neg hF_653 hc6
                replace S1 := S1.put (by decide : 98 < 176) (undef)
                intro v_655 hF_654; obtain rfl : .bool q_260 = v_655 := Eq.symm hF_654
                replace S1 := S1.put (by decide : 97 < 176) (.bool q_260)
                refine fill_nil S1 ?_; clear S1; intro a_ S1
                rw [show q_260 = false from hl6] at S1
                have S0 := S.defers; replace S := S1; clear S1
                refine wl_pure (l' := [(99, undef), (97, .bool false), (98, undef), (57, .bool (t_206.2 != 0)), (10, .int .i64 t_206.2), (9, .pointer (some (⟨b_213, 0, .none⟩ : Addr))), (1, v1)]) S tys tys_ok 1 (by kernel_rfl) ?_; clear S; intro a S
                refine wpList_nil ?_
                exact RPost.mk_ S rfl S0 ⟨fun k_ => absurd k_ hc6, fun _ => rfl⟩ (Below.refl _ _)
            refine RunAll.cons (cndF q_260 true (isI .u8 y_270)) [(cndF q_260 true (isEl (.int .u8) (Kx K w.heap.size [some b_213, some b_44, some b_1]) y_270), 99), (eqv (.bool q_260), 97)] rfl rfl ?_ ?_
            · intro W_ hW
              by_cases hc6 : q_260 = true
              · have hl6 : q_260 = true := hc6
                have S1 := S
                intro v_656 hF_657
                replace hF_657 := cndF.pos hF_657 hc6
                revert hF_657
                revert v_656
                rintro _ ⟨p_660, rfl, R_661, H_662⟩
                replace S1 := S1.put (by decide : 99 < 176) (.pointer (some p_660))
                intro v_664 hF_663; obtain rfl : .bool q_260 = v_664 := Eq.symm hF_663
                replace S1 := S1.put (by decide : 97 < 176) (.bool q_260)
                refine fill_nil S1 ?_; clear S1; intro a_ S1
                rw [show q_260 = true from hl6] at S1
                have S0 := S.defers; replace S := S1; clear S1
                obtain ⟨ey_270, ex_276, _⟩ := (HG_269).1 hc6
                refine w_go S rfl (op_load (t := (.int .u8)) (x := y_270) S rfl ty5 rfl rfl rfl R_661 ?_)
                clear S; intro a v_665 R_666 S
                obtain ⟨rfl, GR_666⟩ := RepV.int R_666
                refine wpList_nil ?_
                exact RPost.mk_ S rfl S0 ⟨fun _ => ⟨rfl, GR_666⟩, fun k_ => absurd hc6 k_⟩ (Below.refl _ _)
              · have hl6 : q_260 = false := Bool.eq_false_iff.2 hc6
                have S1 := S
                intro v_667 hF_668
                obtain rfl := cndF.neg hF_668 hc6
                replace S1 := S1.put (by decide : 99 < 176) (undef)
                intro v_670 hF_669; obtain rfl : .bool q_260 = v_670 := Eq.symm hF_669
                replace S1 := S1.put (by decide : 97 < 176) (.bool q_260)
                refine fill_nil S1 ?_; clear S1; intro a_ S1
                rw [show q_260 = false from hl6] at S1
                have S0 := S.defers; replace S := S1; clear S1
                refine wl_pure (l' := [(100, undef), (97, .bool false), (99, undef), (57, .bool (t_206.2 != 0)), (10, .int .i64 t_206.2), (9, .pointer (some (⟨b_213, 0, .none⟩ : Addr))), (1, v1)]) S tys tys_ok 1 (by kernel_rfl) ?_; clear S; intro a S
                refine wpList_nil ?_
                exact RPost.mk_ S rfl S0 ⟨fun k_ => absurd k_ hc6, fun _ => rfl⟩ (Below.refl _ _)
            refine RunAll.cons (cndF q_260 true (isI .u8 x_276)) [(cndF q_260 true (isI .u8 y_270), 100), (eqv (.bool q_260), 97)] rfl rfl ?_ ?_
            · intro W_ hW
              by_cases hc6 : q_260 = true
              · have hl6 : q_260 = true := hc6
                have S1 := S
                intro v_671 hF_672
                replace hF_672 := cndF.pos hF_672 hc6
                revert hF_672
                revert v_671
                rintro _ ⟨rfl, hF_673⟩
                replace S1 := S1.put (by decide : 100 < 176) (.int .u8 y_270)
                intro v_676 hF_675; obtain rfl : .bool q_260 = v_676 := Eq.symm hF_675
                replace S1 := S1.put (by decide : 97 < 176) (.bool q_260)
                refine fill_nil S1 ?_; clear S1; intro a_ S1
                rw [show q_260 = true from hl6] at S1
                have S0 := S.defers; replace S := S1; clear S1
                obtain ⟨ey_270, ex_276, _⟩ := (HG_269).1 hc6
                refine w_go S rfl (op_rem S .u8 rfl rfl rfl rfl rfl ex_276 ?_)
                clear S; intro a S
                refine wpList_nil ?_
                exact RPost.mk_ S rfl S0 ⟨fun _ => ⟨rfl, (inR_rem ex_276)⟩, fun k_ => absurd hc6 k_⟩ (Below.refl _ _)
              · have hl6 : q_260 = false := Bool.eq_false_iff.2 hc6
                have S1 := S
                intro v_677 hF_678
                obtain rfl := cndF.neg hF_678 hc6
                replace S1 := S1.put (by decide : 100 < 176) (undef)
                intro v_680 hF_679; obtain rfl : .bool q_260 = v_680 := Eq.symm hF_679
                replace S1 := S1.put (by decide : 97 < 176) (.bool q_260)
                refine fill_nil S1 ?_; clear S1; intro a_ S1
                rw [show q_260 = false from hl6] at S1
                have S0 := S.defers; replace S := S1; clear S1
                refine wl_pure (l' := [(101, undef), (97, .bool false), (100, undef), (57, .bool (t_206.2 != 0)), (10, .int .i64 t_206.2), (9, .pointer (some (⟨b_213, 0, .none⟩ : Addr))), (1, v1)]) S tys tys_ok 1 (by kernel_rfl) ?_; clear S; intro a S
                refine wpList_nil ?_
                exact RPost.mk_ S rfl S0 ⟨fun k_ => absurd k_ hc6, fun _ => rfl⟩ (Below.refl _ _)
            refine RunAll.cons (cndF q_260 true (eqv (.bool (x_276 == 0)))) [(cndF q_260 true (isI .u8 x_276), 101), (eqv (.bool q_260), 97)] rfl rfl ?_ ?_
            · intro W_ hW
              by_cases hc6 : q_260 = true
              · have hl6 : q_260 = true := hc6
                have S1 := S
                intro v_681 hF_682
                replace hF_682 := cndF.pos hF_682 hc6
                revert hF_682
                revert v_681
                rintro _ ⟨rfl, hF_683⟩
                replace S1 := S1.put (by decide : 101 < 176) (.int .u8 x_276)
                intro v_686 hF_685; obtain rfl : .bool q_260 = v_686 := Eq.symm hF_685
                replace S1 := S1.put (by decide : 97 < 176) (.bool q_260)
                refine fill_nil S1 ?_; clear S1; intro a_ S1
                rw [show q_260 = true from hl6] at S1
                have S0 := S.defers; replace S := S1; clear S1
                refine wl_pure (l' := [(102, .bool (x_276 == 0)), (97, .bool true), (101, .int .u8 x_276), (57, .bool (t_206.2 != 0)), (10, .int .i64 t_206.2), (9, .pointer (some (⟨b_213, 0, .none⟩ : Addr))), (1, v1)]) S tys tys_ok 1 (by kernel_rfl) ?_; clear S; intro a S
                refine wpList_nil ?_
                exact RPost.mk_ S rfl S0 ⟨fun _ => rfl, fun k_ => absurd hc6 k_⟩ (Below.refl _ _)
              · have hl6 : q_260 = false := Bool.eq_false_iff.2 hc6
                have S1 := S
                intro v_687 hF_688
                obtain rfl := cndF.neg hF_688 hc6
                replace S1 := S1.put (by decide : 101 < 176) (undef)
                intro v_690 hF_689; obtain rfl : .bool q_260 = v_690 := Eq.symm hF_689
                replace S1 := S1.put (by decide : 97 < 176) (.bool q_260)
                refine fill_nil S1 ?_; clear S1; intro a_ S1
                rw [show q_260 = false from hl6] at S1
                have S0 := S.defers; replace S := S1; clear S1
                refine wl_pure (l' := [(102, undef), (97, .bool false), (101, undef), (57, .bool (t_206.2 != 0)), (10, .int .i64 t_206.2), (9, .pointer (some (⟨b_213, 0, .none⟩ : Addr))), (1, v1)]) S tys tys_ok 1 (by kernel_rfl) ?_; clear S; intro a S
                refine wpList_nil ?_
                exact RPost.mk_ S rfl S0 ⟨fun k_ => absurd k_ hc6, fun _ => rfl⟩ (Below.refl _ _)
            refine RunAll.cons (eqv (.bool q_268)) [(eqv (.bool q_260), 97), (cndF q_260 true (eqv (.bool (x_276 == 0))), 102)] rfl rfl ?_ ?_
            · intro W_ hW
              by_cases hc6 : q_260 = true
              · have hl6 : q_260 = true := hc6
                have S1 := S
                intro v_692 hF_691; obtain rfl : .bool q_260 = v_692 := Eq.symm hF_691
                replace S1 := S1.put (by decide : 97 < 176) (.bool q_260)
                intro v_693 hF_694
                replace hF_694 := cndF.pos hF_694 hc6
                revert hF_694
                revert v_693
                intro v_696 hF_695; obtain rfl : .bool (x_276 == 0) = v_696 := Eq.symm hF_695
                replace S1 := S1.put (by decide : 102 < 176) (.bool (x_276 == 0))
                refine fill_nil S1 ?_; clear S1; intro a_ S1
                rw [show q_260 = true from hl6] at S1
                have S0 := S.defers; replace S := S1; clear S1
                refine wl_pure (l' := [(103, .bool (x_276 == 0)), (102, .bool (x_276 == 0)), (97, .bool true), (57, .bool (t_206.2 != 0)), (10, .int .i64 t_206.2), (9, .pointer (some (⟨b_213, 0, .none⟩ : Addr))), (1, v1)]) S tys tys_ok 1 (by kernel_rfl) ?_; clear S; intro a S
                refine wpList_nil ?_
                exact RPost.mk_ S rfl S0 (congrArg Value.bool ((HG_269).1 hc6).2.2) (Below.refl _ _)
              · have hl6 : q_260 = false := Bool.eq_false_iff.2 hc6
                have S1 := S
                intro v_698 hF_697; obtain rfl : .bool q_260 = v_698 := Eq.symm hF_697
                replace S1 := S1.put (by decide : 97 < 176) (.bool q_260)
                intro v_699 hF_700
                obtain rfl := cndF.neg hF_700 hc6
                replace S1 := S1.put (by decide : 102 < 176) (undef)
                refine fill_nil S1 ?_; clear S1; intro a_ S1
                rw [show q_260 = false from hl6] at S1
                have S0 := S.defers; replace S := S1; clear S1
                refine wl_pure (l' := [(103, .bool false), (102, undef), (97, .bool false), (57, .bool (t_206.2 != 0)), (10, .int .i64 t_206.2), (9, .pointer (some (⟨b_213, 0, .none⟩ : Addr))), (1, v1)]) S tys tys_ok 1 (by kernel_rfl) ?_; clear S; intro a S
                refine wpList_nil ?_
                exact RPost.mk_ S rfl S0 (congrArg Value.bool ((HG_269).2 hc6)) (Below.refl _ _)
            refine RunAll.cons (eqv (.bool q_268)) [(eqv (.bool q_268), 103)] rfl rfl ?_ ?_
            · intro W_ hW
              have S1 := S
              intro v_702 hF_701; obtain rfl : .bool q_268 = v_702 := Eq.symm hF_701
              replace S1 := S1.put (by decide : 103 < 176) (.bool q_268)
              refine fill_nil S1 ?_; clear S1; intro a_ S1
              have S0 := S.defers; replace S := S1; clear S1
              refine wl_pure (l' := [(104, .bool q_268), (103, .bool q_268), (57, .bool (t_206.2 != 0)), (10, .int .i64 t_206.2), (9, .pointer (some (⟨b_213, 0, .none⟩ : Addr))), (1, v1)]) S tys tys_ok 1 (by kernel_rfl) ?_; clear S; intro a S
              refine wpList_nil ?_
              exact RPost.mk_ S rfl S0 rfl (Below.refl _ _)
            refine RunAll.cons (cndF q_268 true (isRep (.sl (.int .u8)) (Kx K w.heap.size [some b_213, some b_44, some b_1]) x1)) [(eqv (.bool q_268), 104)] rfl rfl ?_ ?_
            · intro W_ hW
              by_cases hc7 : q_268 = true
              · have hl7 : q_268 = true := hc7
                have S1 := S
                intro v_704 hF_703; obtain rfl : .bool q_268 = v_704 := Eq.symm hF_703
                replace S1 := S1.put (by decide : 104 < 176) (.bool q_268)
                refine fill_nil S1 ?_; clear S1; intro a_ S1
                replace R1 := R1.step hW
                rw [show q_268 = true from hl7] at S1
                have S0 := S.defers; replace S := S1; clear S1
                refine wl_pure (l' := [(105, v1), (104, .bool true), (57, .bool (t_206.2 != 0)), (10, .int .i64 t_206.2), (9, .pointer (some (⟨b_213, 0, .none⟩ : Addr))), (1, v1)]) S tys tys_ok 1 (by kernel_rfl) ?_; clear S; intro a S
                refine wpList_nil ?_
                exact RPost.mk_ S rfl S0 ⟨fun _ => R1, fun k_ => absurd hc7 k_⟩ (Below.refl _ _)
              · have hl7 : q_268 = false := Bool.eq_false_iff.2 hc7
                have S1 := S
                intro v_706 hF_705; obtain rfl : .bool q_268 = v_706 := Eq.symm hF_705
                replace S1 := S1.put (by decide : 104 < 176) (.bool q_268)
                refine fill_nil S1 ?_; clear S1; intro a_ S1
                rw [show q_268 = false from hl7] at S1
                have S0 := S.defers; replace S := S1; clear S1
                refine wl_pure (l' := [(105, undef), (104, .bool false), (57, .bool (t_206.2 != 0)), (10, .int .i64 t_206.2), (9, .pointer (some (⟨b_213, 0, .none⟩ : Addr))), (1, v1)]) S tys tys_ok 1 (by kernel_rfl) ?_; clear S; intro a S
                refine wpList_nil ?_
                exact RPost.mk_ S rfl S0 ⟨fun k_ => absurd k_ hc7, fun _ => rfl⟩ (Below.refl _ _)
            refine RunAll.cons (cndF q_268 true (isEl (.int .u8) (Kx K w.heap.size [some b_213, some b_44, some b_1]) y_279)) [(cndF q_268 true (isRep (.sl (.int .u8)) (Kx K w.heap.size [some b_213, some b_44, some b_1]) x1), 105), (eqv (.bool q_268), 104)] rfl rfl ?_ ?_
            · intro W_ hW
              by_cases hc7 : q_268 = true
              · have hl7 : q_268 = true := hc7
                have S1 := S
                intro v_707 hF_708
                replace hF_708 := cndF.pos hF_708 hc7
                revert hF_708
                revert v_707
                intro v_710 hF_709; replace hF_709 : RepV _ _ _ _ _ := hF_709
                replace S1 := S1.put (by decide : 105 < 176) (v_710)
                intro v_712 hF_711; obtain rfl : .bool q_268 = v_712 := Eq.symm hF_711
                replace S1 := S1.put (by decide : 104 < 176) (.bool q_268)
                refine fill_nil S1 ?_; clear S1; intro a_ S1
                replace W := W.step hW
                rw [show q_268 = true from hl7] at S1
                have S0 := S.defers; replace S := S1; clear S1
                obtain ⟨ey_279, eq_285, _⟩ := (HG_278).1 hc7
                refine w_go S rfl (op_indexAddr S rfl ty23 rfl rfl rfl hF_709 rfl ey_279 ?_)
                clear S; intro a p_713 R_714 H_715 S
                refine wpList_nil ?_
                exact RPost.mk_ S rfl S0 ⟨fun _ => ⟨_, rfl, R_714, H_715⟩, fun k_ => absurd hc7 k_⟩ (Below.refl _ _)
              · have hl7 : q_268 = false := Bool.eq_false_iff.2 hc7
                have S1 := S
                intro v_716 hF_717
                obtain rfl := cndF.neg hF_717 hc7
                replace S1 := S1.put (by decide : 105 < 176) (undef)
                intro v_719 hF_718; obtain rfl : .bool q_268 = v_719 := Eq.symm hF_718
                replace S1 := S1.put (by decide : 104 < 176) (.bool q_268)
                refine fill_nil S1 ?_; clear S1; intro a_ S1
                rw [show q_268 = false from hl7] at S1
                have S0 := S.defers; replace S := S1; clear S1
                refine wl_pure (l' := [(106, undef), (104, .bool false), (105, undef), (57, .bool (t_206.2 != 0)), (10, .int .i64 t_206.2), (9, .pointer (some (⟨b_213, 0, .none⟩ : Addr))), (1, v1)]) S tys tys_ok 1 (by kernel_rfl) ?_; clear S; intro a S
                refine wpList_nil ?_
                exact RPost.mk_ S rfl S0 ⟨fun k_ => absurd k_ hc7, fun _ => rfl⟩ (Below.refl _ _)
            refine RunAll.cons (cndF q_268 true (isI .u8 y_279)) [(cndF q_268 true (isEl (.int .u8) (Kx K w.heap.size [some b_213, some b_44, some b_1]) y_279), 106), (eqv (.bool q_268), 104)] rfl rfl ?_ ?_
            · intro W_ hW
              by_cases hc7 : q_268 = true
              · have hl7 : q_268 = true := hc7
                have S1 := S
                intro v_720 hF_721
                replace hF_721 := cndF.pos hF_721 hc7
                revert hF_721
                revert v_720
                rintro _ ⟨p_724, rfl, R_725, H_726⟩
                replace S1 := S1.put (by decide : 106 < 176) (.pointer (some p_724))
                intro v_728 hF_727; obtain rfl : .bool q_268 = v_728 := Eq.symm hF_727
                replace S1 := S1.put (by decide : 104 < 176) (.bool q_268)
                refine fill_nil S1 ?_; clear S1; intro a_ S1
                rw [show q_268 = true from hl7] at S1
                have S0 := S.defers; replace S := S1; clear S1
                obtain ⟨ey_279, eq_285, _⟩ := (HG_278).1 hc7
                refine w_go S rfl (op_load (t := (.int .u8)) (x := y_279) S rfl ty5 rfl rfl rfl R_725 ?_)
                clear S; intro a v_729 R_730 S
                obtain ⟨rfl, GR_730⟩ := RepV.int R_730
                refine wpList_nil ?_
                exact RPost.mk_ S rfl S0 ⟨fun _ => ⟨rfl, GR_730⟩, fun k_ => absurd hc7 k_⟩ (Below.refl _ _)
              · have hl7 : q_268 = false := Bool.eq_false_iff.2 hc7
                have S1 := S
                intro v_731 hF_732
                obtain rfl := cndF.neg hF_732 hc7
                replace S1 := S1.put (by decide : 106 < 176) (undef)
                intro v_734 hF_733; obtain rfl : .bool q_268 = v_734 := Eq.symm hF_733
                replace S1 := S1.put (by decide : 104 < 176) (.bool q_268)
                refine fill_nil S1 ?_; clear S1; intro a_ S1
                rw [show q_268 = false from hl7] at S1
                have S0 := S.defers; replace S := S1; clear S1
                refine wl_pure (l' := [(107, undef), (104, .bool false), (106, undef), (57, .bool (t_206.2 != 0)), (10, .int .i64 t_206.2), (9, .pointer (some (⟨b_213, 0, .none⟩ : Addr))), (1, v1)]) S tys tys_ok 1 (by kernel_rfl) ?_; clear S; intro a S
                refine wpList_nil ?_
                exact RPost.mk_ S rfl S0 ⟨fun k_ => absurd k_ hc7, fun _ => rfl⟩ (Below.refl _ _)
            refine RunAll.cons (cndF q_268 true (eqv (.bool (y_279 == 7)))) [(cndF q_268 true (isI .u8 y_279), 107), (eqv (.bool q_268), 104)] rfl rfl ?_ ?_
            · intro W_ hW
              by_cases hc7 : q_268 = true
              · have hl7 : q_268 = true := hc7
                have S1 := S
                intro v_735 hF_736
                replace hF_736 := cndF.pos hF_736 hc7
                revert hF_736
                revert v_735
                rintro _ ⟨rfl, hF_737⟩
                replace S1 := S1.put (by decide : 107 < 176) (.int .u8 y_279)
                intro v_740 hF_739; obtain rfl : .bool q_268 = v_740 := Eq.symm hF_739
                replace S1 := S1.put (by decide : 104 < 176) (.bool q_268)
                refine fill_nil S1 ?_; clear S1; intro a_ S1
                rw [show q_268 = true from hl7] at S1
                have S0 := S.defers; replace S := S1; clear S1
                refine wl_pure (l' := [(108, .bool (y_279 == 7)), (104, .bool true), (107, .int .u8 y_279), (57, .bool (t_206.2 != 0)), (10, .int .i64 t_206.2), (9, .pointer (some (⟨b_213, 0, .none⟩ : Addr))), (1, v1)]) S tys tys_ok 1 (by kernel_rfl) ?_; clear S; intro a S
                refine wpList_nil ?_
                exact RPost.mk_ S rfl S0 ⟨fun _ => rfl, fun k_ => absurd hc7 k_⟩ (Below.refl _ _)
              · have hl7 : q_268 = false := Bool.eq_false_iff.2 hc7
                have S1 := S
                intro v_741 hF_742
                obtain rfl := cndF.neg hF_742 hc7
                replace S1 := S1.put (by decide : 107 < 176) (undef)
                intro v_744 hF_743; obtain rfl : .bool q_268 = v_744 := Eq.symm hF_743
                replace S1 := S1.put (by decide : 104 < 176) (.bool q_268)
                refine fill_nil S1 ?_; clear S1; intro a_ S1
                rw [show q_268 = false from hl7] at S1
                have S0 := S.defers; replace S := S1; clear S1
                refine wl_pure (l' := [(108, undef), (104, .bool false), (107, undef), (57, .bool (t_206.2 != 0)), (10, .int .i64 t_206.2), (9, .pointer (some (⟨b_213, 0, .none⟩ : Addr))), (1, v1)]) S tys tys_ok 1 (by kernel_rfl) ?_; clear S; intro a S
                refine wpList_nil ?_
                exact RPost.mk_ S rfl S0 ⟨fun k_ => absurd k_ hc7, fun _ => rfl⟩ (Below.refl _ _)
            refine RunAll.cons (cndF q_268 true (eqv (.bool (y_279 == 7)))) [(cndF q_268 true (eqv (.bool (y_279 == 7))), 108), (eqv (.bool q_268), 104)] rfl rfl ?_ ?_
            · intro W_ hW
              by_cases hc7 : q_268 = true
              · have hl7 : q_268 = true := hc7
                have S1 := S
                intro v_745 hF_746
                replace hF_746 := cndF.pos hF_746 hc7
                revert hF_746
                revert v_745
                intro v_748 hF_747; obtain rfl : .bool (y_279 == 7) = v_748 := Eq.symm hF_747
                replace S1 := S1.put (by decide : 108 < 176) (.bool (y_279 == 7))
                intro v_750 hF_749; obtain rfl : .bool q_268 = v_750 := Eq.symm hF_749
                replace S1 := S1.put (by decide : 104 < 176) (.bool q_268)
                refine fill_nil S1 ?_; clear S1; intro a_ S1
                rw [show q_268 = true from hl7] at S1
                have S0 := S.defers; replace S := S1; clear S1
                refine wl_pure (l' := [(109, .bool (y_279 == 7)), (104, .bool true), (108, .bool (y_279 == 7)), (57, .bool (t_206.2 != 0)), (10, .int .i64 t_206.2), (9, .pointer (some (⟨b_213, 0, .none⟩ : Addr))), (1, v1)]) S tys tys_ok 1 (by kernel_rfl) ?_; clear S; intro a S
                refine wpList_nil ?_
                exact RPost.mk_ S rfl S0 ⟨fun _ => rfl, fun k_ => absurd hc7 k_⟩ (Below.refl _ _)
              · have hl7 : q_268 = false := Bool.eq_false_iff.2 hc7
                have S1 := S
                intro v_751 hF_752
                obtain rfl := cndF.neg hF_752 hc7
                replace S1 := S1.put (by decide : 108 < 176) (undef)
                intro v_754 hF_753; obtain rfl : .bool q_268 = v_754 := Eq.symm hF_753
                replace S1 := S1.put (by decide : 104 < 176) (.bool q_268)
                refine fill_nil S1 ?_; clear S1; intro a_ S1
                rw [show q_268 = false from hl7] at S1
                have S0 := S.defers; replace S := S1; clear S1
                refine wl_pure (l' := [(109, undef), (104, .bool false), (108, undef), (57, .bool (t_206.2 != 0)), (10, .int .i64 t_206.2), (9, .pointer (some (⟨b_213, 0, .none⟩ : Addr))), (1, v1)]) S tys tys_ok 1 (by kernel_rfl) ?_; clear S; intro a S
                refine wpList_nil ?_
                exact RPost.mk_ S rfl S0 ⟨fun k_ => absurd k_ hc7, fun _ => rfl⟩ (Below.refl _ _)
            refine RunAll.cons (cndF q_268 true (cndF (y_279 == 7) false (isRep (.sl (.int .u8)) (Kx K w.heap.size [some b_213, some b_44, some b_1]) x1))) [(cndF q_268 true (eqv (.bool (y_279 == 7))), 109)] rfl rfl ?_ ?_
            · intro W_ hW
              by_cases hc7 : q_268 = true
              · have hl7 : q_268 = true := hc7
                by_cases hc8 : (y_279 == 7) = false
                · have hl8 : (y_279 == 7) = false := hc8
                  have S1 := S
                  intro v_755 hF_756
                  replace hF_756 := cndF.pos hF_756 hc7
                  revert hF_756
                  revert v_755
                  intro v_758 hF_757; obtain rfl : .bool (y_279 == 7) = v_758 := Eq.symm hF_757
                  replace S1 := S1.put (by decide : 109 < 176) (.bool (y_279 == 7))
                  refine fill_nil S1 ?_; clear S1; intro a_ S1
                  replace R1 := R1.step hW
                  rw [show (y_279 == 7) = false from hl8] at S1
                  have S0 := S.defers; replace S := S1; clear S1
                  refine wl_pure (l' := [(110, v1), (109, .bool false), (57, .bool (t_206.2 != 0)), (10, .int .i64 t_206.2), (9, .pointer (some (⟨b_213, 0, .none⟩ : Addr))), (1, v1)]) S tys tys_ok 1 (by kernel_rfl) ?_; clear S; intro a S
                  refine wpList_nil ?_
                  exact RPost.mk_ S rfl S0 ⟨fun _ => ⟨fun _ => R1, fun k_ => absurd hc8 k_⟩, fun k_ => absurd hc7 k_⟩ (Below.refl _ _)
                · have hl8 : (y_279 == 7) = true := (by simpa using hc8)
                  have S1 := S
                  intro v_759 hF_760
                  replace hF_760 := cndF.pos hF_760 hc7
                  revert hF_760
                  revert v_759
                  intro v_762 hF_761; obtain rfl : .bool (y_279 == 7) = v_762 := Eq.symm hF_761
                  replace S1 := S1.put (by decide : 109 < 176) (.bool (y_279 == 7))
                  refine fill_nil S1 ?_; clear S1; intro a_ S1
                  rw [show (y_279 == 7) = true from hl8] at S1
                  have S0 := S.defers; replace S := S1; clear S1
                  refine wl_pure (l' := [(110, undef), (109, .bool true), (57, .bool (t_206.2 != 0)), (10, .int .i64 t_206.2), (9, .pointer (some (⟨b_213, 0, .none⟩ : Addr))), (1, v1)]) S tys tys_ok 1 (by kernel_rfl) ?_; clear S; intro a S
                  refine wpList_nil ?_
                  exact RPost.mk_ S rfl S0 ⟨fun _ => ⟨fun k_ => absurd k_ hc8, fun _ => rfl⟩, fun k_ => absurd hc7 k_⟩ (Below.refl _ _)
              · have hl7 : q_268 = false := Bool.eq_false_iff.2 hc7
                have S1 := S
                intro v_763 hF_764
                obtain rfl := cndF.neg hF_764 hc7
                replace S1 := S1.put (by decide : 109 < 176) (undef)
                refine fill_nil S1 ?_; clear S1; intro a_ S1
                have S0 := S.defers; replace S := S1; clear S1
                refine wl_pure (l' := [(110, undef), (109, undef), (57, .bool (t_206.2 != 0)), (10, .int .i64 t_206.2), (9, .pointer (some (⟨b_213, 0, .none⟩ : Addr))), (1, v1)]) S tys tys_ok 1 (by kernel_rfl) ?_; clear S; intro a S
                refine wpList_nil ?_
                exact RPost.mk_ S rfl S0 ⟨fun k_ => absurd k_ hc7, fun _ => rfl⟩ (Below.refl _ _)
            refine RunAll.cons (cndF q_268 true (cndF (y_279 == 7) false (isEl (.int .u8) (Kx K w.heap.size [some b_213, some b_44, some b_1]) y_287))) [(cndF q_268 true (cndF (y_279 == 7) false (isRep (.sl (.int .u8)) (Kx K w.heap.size [some b_213, some b_44, some b_1]) x1)), 110), (cndF q_268 true (eqv (.bool (y_279 == 7))), 109)] rfl rfl ?_ ?_
            · intro W_ hW
              by_cases hc7 : q_268 = true
              · have hl7 : q_268 = true := hc7
                by_cases hc8 : (y_279 == 7) = false
                · have hl8 : (y_279 == 7) = false := hc8
                  have S1 := S
                  intro v_765 hF_766
                  replace hF_766 := cndF.pos hF_766 hc7
                  replace hF_766 := cndF.pos hF_766 hc8
                  revert hF_766
                  revert v_765
                  intro v_768 hF_767; replace hF_767 : RepV _ _ _ _ _ := hF_767
                  replace S1 := S1.put (by decide : 110 < 176) (v_768)
                  intro v_769 hF_770
                  replace hF_770 := cndF.pos hF_770 hc7
                  revert hF_770
                  revert v_769
                  intro v_772 hF_771; obtain rfl : .bool (y_279 == 7) = v_772 := Eq.symm hF_771
                  replace S1 := S1.put (by decide : 109 < 176) (.bool (y_279 == 7))
                  refine fill_nil S1 ?_; clear S1; intro a_ S1
                  replace W := W.step hW
                  rw [show (y_279 == 7) = false from hl8] at S1
                  have S0 := S.defers; replace S := S1; clear S1
                  obtain ⟨ey_279, eq_285, _⟩ := (HG_278).1 hc7
                  obtain ⟨ey_287, ey_293, ex_299, _⟩ := (HG_286 hc7).1 hc8
                  refine w_go S rfl (op_indexAddr S rfl ty23 rfl rfl rfl hF_767 rfl ey_287 ?_)
                  clear S; intro a p_773 R_774 H_775 S
                  refine wpList_nil ?_
                  exact RPost.mk_ S rfl S0 ⟨fun _ => ⟨fun _ => ⟨_, rfl, R_774, H_775⟩, fun k_ => absurd hc8 k_⟩, fun k_ => absurd hc7 k_⟩ (Below.refl _ _)
                · have hl8 : (y_279 == 7) = true := (by simpa using hc8)
                  have S1 := S
                  intro v_776 hF_777
                  replace hF_777 := cndF.pos hF_777 hc7
                  obtain rfl := cndF.neg hF_777 hc8
                  replace S1 := S1.put (by decide : 110 < 176) (undef)
                  intro v_778 hF_779
                  replace hF_779 := cndF.pos hF_779 hc7
                  revert hF_779
                  revert v_778
                  intro v_781 hF_780; obtain rfl : .bool (y_279 == 7) = v_781 := Eq.symm hF_780
                  replace S1 := S1.put (by decide : 109 < 176) (.bool (y_279 == 7))
                  refine fill_nil S1 ?_; clear S1; intro a_ S1
                  rw [show (y_279 == 7) = true from hl8] at S1
                  have S0 := S.defers; replace S := S1; clear S1
                  refine wl_pure (l' := [(111, undef), (109, .bool true), (110, undef), (57, .bool (t_206.2 != 0)), (10, .int .i64 t_206.2), (9, .pointer (some (⟨b_213, 0, .none⟩ : Addr))), (1, v1)]) S tys tys_ok 1 (by kernel_rfl) ?_; clear S; intro a S
                  refine wpList_nil ?_
                  exact RPost.mk_ S rfl S0 ⟨fun _ => ⟨fun k_ => absurd k_ hc8, fun _ => rfl⟩, fun k_ => absurd hc7 k_⟩ (Below.refl _ _)
              · have hl7 : q_268 = false := Bool.eq_false_iff.2 hc7
                have S1 := S
                intro v_782 hF_783
                obtain rfl := cndF.neg hF_783 hc7
                replace S1 := S1.put (by decide : 110 < 176) (undef)
                intro v_784 hF_785
                obtain rfl := cndF.neg hF_785 hc7
                replace S1 := S1.put (by decide : 109 < 176) (undef)
                refine fill_nil S1 ?_; clear S1; intro a_ S1
                have S0 := S.defers; replace S := S1; clear S1
                refine wl_pure (l' := [(111, undef), (109, undef), (110, undef), (57, .bool (t_206.2 != 0)), (10, .int .i64 t_206.2), (9, .pointer (some (⟨b_213, 0, .none⟩ : Addr))), (1, v1)]) S tys tys_ok 1 (by kernel_rfl) ?_; clear S; intro a S
                refine wpList_nil ?_
                exact RPost.mk_ S rfl S0 ⟨fun k_ => absurd k_ hc7, fun _ => rfl⟩ (Below.refl _ _)
            refine RunAll.cons (cndF q_268 true (cndF (y_279 == 7) false (isI .u8 y_287))) [(cndF q_268 true (cndF (y_279 == 7) false (isEl (.int .u8) (Kx K w.heap.size [some b_213, some b_44, some b_1]) y_287)), 111), (cndF q_268 true (eqv (.bool (y_279 == 7))), 109)] rfl rfl ?_ ?_
            · intro W_ hW
              by_cases hc7 : q_268 = true
              · have hl7 : q_268 = true := hc7
                by_cases hc8 : (y_279 == 7) = false
                · have hl8 : (y_279 == 7) = false := hc8
                  have S1 := S
                  intro v_786 hF_787
                  replace hF_787 := cndF.pos hF_787 hc7
                  replace hF_787 := cndF.pos hF_787 hc8
                  revert hF_787
                  revert v_786
                  rintro _ ⟨p_790, rfl, R_791, H_792⟩
                  replace S1 := S1.put (by decide : 111 < 176) (.pointer (some p_790))
                  intro v_793 hF_794
                  replace hF_794 := cndF.pos hF_794 hc7
                  revert hF_794
                  revert v_793
                  intro v_796 hF_795; obtain rfl : .bool (y_279 == 7) = v_796 := Eq.symm hF_795
                  replace S1 := S1.put (by decide : 109 < 176) (.bool (y_279 == 7))
                  refine fill_nil S1 ?_; clear S1; intro a_ S1
                  rw [show (y_279 == 7) = false from hl8] at S1
                  have S0 := S.defers; replace S := S1; clear S1
                  obtain ⟨ey_279, eq_285, _⟩ := (HG_278).1 hc7
                  obtain ⟨ey_287, ey_293, ex_299, _⟩ := (HG_286 hc7).1 hc8
                  refine w_go S rfl (op_load (t := (.int .u8)) (x := y_287) S rfl ty5 rfl rfl rfl R_791 ?_)
                  clear S; intro a v_797 R_798 S
                  obtain ⟨rfl, GR_798⟩ := RepV.int R_798
                  refine wpList_nil ?_
                  exact RPost.mk_ S rfl S0 ⟨fun _ => ⟨fun _ => ⟨rfl, GR_798⟩, fun k_ => absurd hc8 k_⟩, fun k_ => absurd hc7 k_⟩ (Below.refl _ _)
                · have hl8 : (y_279 == 7) = true := (by simpa using hc8)
                  have S1 := S
                  intro v_799 hF_800
                  replace hF_800 := cndF.pos hF_800 hc7
                  obtain rfl := cndF.neg hF_800 hc8
                  replace S1 := S1.put (by decide : 111 < 176) (undef)
                  intro v_801 hF_802
                  replace hF_802 := cndF.pos hF_802 hc7
                  revert hF_802
                  revert v_801
                  intro v_804 hF_803; obtain rfl : .bool (y_279 == 7) = v_804 := Eq.symm hF_803
                  replace S1 := S1.put (by decide : 109 < 176) (.bool (y_279 == 7))
                  refine fill_nil S1 ?_; clear S1; intro a_ S1
                  rw [show (y_279 == 7) = true from hl8] at S1
                  have S0 := S.defers; replace S := S1; clear S1
                  refine wl_pure (l' := [(112, undef), (109, .bool true), (111, undef), (57, .bool (t_206.2 != 0)), (10, .int .i64 t_206.2), (9, .pointer (some (⟨b_213, 0, .none⟩ : Addr))), (1, v1)]) S tys tys_ok 1 (by kernel_rfl) ?_; clear S; intro a S
                  refine wpList_nil ?_
                  exact RPost.mk_ S rfl S0 ⟨fun _ => ⟨fun k_ => absurd k_ hc8, fun _ => rfl⟩, fun k_ => absurd hc7 k_⟩ (Below.refl _ _)
              · have hl7 : q_268 = false := Bool.eq_false_iff.2 hc7
                have S1 := S
                intro v_805 hF_806
                obtain rfl := cndF.neg hF_806 hc7
                replace S1 := S1.put (by decide : 111 < 176) (undef)
                intro v_807 hF_808
                obtain rfl := cndF.neg hF_808 hc7
                replace S1 := S1.put (by decide : 109 < 176) (undef)
                refine fill_nil S1 ?_; clear S1; intro a_ S1
                have S0 := S.defers; replace S := S1; clear S1
                refine wl_pure (l' := [(112, undef), (109, undef), (111, undef), (57, .bool (t_206.2 != 0)), (10, .int .i64 t_206.2), (9, .pointer (some (⟨b_213, 0, .none⟩ : Addr))), (1, v1)]) S tys tys_ok 1 (by kernel_rfl) ?_; clear S; intro a S
                refine wpList_nil ?_
                exact RPost.mk_ S rfl S0 ⟨fun k_ => absurd k_ hc7, fun _ => rfl⟩ (Below.refl _ _)
            refine RunAll.cons (cndF q_268 true (cndF (y_279 == 7) false (isI .i64 y_287))) [(cndF q_268 true (cndF (y_279 == 7) false (isI .u8 y_287)), 112), (cndF q_268 true (eqv (.bool (y_279 == 7))), 109)] rfl rfl ?_ ?_
            · intro W_ hW
              by_cases hc7 : q_268 = true
              · have hl7 : q_268 = true := hc7
                by_cases hc8 : (y_279 == 7) = false
                · have hl8 : (y_279 == 7) = false := hc8
                  have S1 := S
                  intro v_809 hF_810
                  replace hF_810 := cndF.pos hF_810 hc7
                  replace hF_810 := cndF.pos hF_810 hc8
                  revert hF_810
                  revert v_809
                  rintro _ ⟨rfl, hF_811⟩
                  replace S1 := S1.put (by decide : 112 < 176) (.int .u8 y_287)
                  intro v_813 hF_814
                  replace hF_814 := cndF.pos hF_814 hc7
                  revert hF_814
                  revert v_813
                  intro v_816 hF_815; obtain rfl : .bool (y_279 == 7) = v_816 := Eq.symm hF_815
                  replace S1 := S1.put (by decide : 109 < 176) (.bool (y_279 == 7))
                  refine fill_nil S1 ?_; clear S1; intro a_ S1
                  replace W := W.step hW
                  rw [show (y_279 == 7) = false from hl8] at S1
                  have S0 := S.defers; replace S := S1; clear S1
                  obtain ⟨ey_279, eq_285, _⟩ := (HG_278).1 hc7
                  obtain ⟨ey_287, ey_293, ex_299, _⟩ := (HG_286 hc7).1 hc8
                  refine w_go S rfl (op_conv S .i64 .bool .bool rfl ty5 ty3 rfl rfl rfl (widen hF_811 (by decide)).1 ?_)
                  clear S; intro a S
                  refine wpList_nil ?_
                  exact RPost.mk_ S rfl S0 ⟨fun _ => ⟨fun _ => ⟨rfl, (widen hF_811 (by decide)).2⟩, fun k_ => absurd hc8 k_⟩, fun k_ => absurd hc7 k_⟩ (Below.refl _ _)
                · have hl8 : (y_279 == 7) = true := (by simpa using hc8)
                  have S1 := S
                  intro v_817 hF_818
                  replace hF_818 := cndF.pos hF_818 hc7
                  obtain rfl := cndF.neg hF_818 hc8
                  replace S1 := S1.put (by decide : 112 < 176) (undef)
                  intro v_819 hF_820
                  replace hF_820 := cndF.pos hF_820 hc7
                  revert hF_820
                  revert v_819
                  intro v_822 hF_821; obtain rfl : .bool (y_279 == 7) = v_822 := Eq.symm hF_821
                  replace S1 := S1.put (by decide : 109 < 176) (.bool (y_279 == 7))
                  refine fill_nil S1 ?_; clear S1; intro a_ S1
                  rw [show (y_279 == 7) = true from hl8] at S1
                  have S0 := S.defers; replace S := S1; clear S1
                  refine wl_pure (l' := [(113, undef), (109, .bool true), (112, undef), (57, .bool (t_206.2 != 0)), (10, .int .i64 t_206.2), (9, .pointer (some (⟨b_213, 0, .none⟩ : Addr))), (1, v1)]) S tys tys_ok 1 (by kernel_rfl) ?_; clear S; intro a S
                  refine wpList_nil ?_
                  exact RPost.mk_ S rfl S0 ⟨fun _ => ⟨fun k_ => absurd k_ hc8, fun _ => rfl⟩, fun k_ => absurd hc7 k_⟩ (Below.refl _ _)
              · have hl7 : q_268 = false := Bool.eq_false_iff.2 hc7
                have S1 := S
                intro v_823 hF_824
                obtain rfl := cndF.neg hF_824 hc7
                replace S1 := S1.put (by decide : 112 < 176) (undef)
                intro v_825 hF_826
                obtain rfl := cndF.neg hF_826 hc7
                replace S1 := S1.put (by decide : 109 < 176) (undef)
                refine fill_nil S1 ?_; clear S1; intro a_ S1
                have S0 := S.defers; replace S := S1; clear S1
                refine wl_pure (l' := [(113, undef), (109, undef), (112, undef), (57, .bool (t_206.2 != 0)), (10, .int .i64 t_206.2), (9, .pointer (some (⟨b_213, 0, .none⟩ : Addr))), (1, v1)]) S tys tys_ok 1 (by kernel_rfl) ?_; clear S; intro a S
                refine wpList_nil ?_
                exact RPost.mk_ S rfl S0 ⟨fun k_ => absurd k_ hc7, fun _ => rfl⟩ (Below.refl _ _)
            refine RunAll.cons (cndF q_268 true (cndF (y_279 == 7) false (isRep (.sl (.int .u8)) (Kx K w.heap.size [some b_213, some b_44, some b_1]) x1))) [(cndF q_268 true (eqv (.bool (y_279 == 7))), 109)] rfl rfl ?_ ?_
            · intro W_ hW
              by_cases hc7 : q_268 = true
              · have hl7 : q_268 = true := hc7
                by_cases hc8 : (y_279 == 7) = false
                · have hl8 : (y_279 == 7) = false := hc8
                  have S1 := S
                  intro v_827 hF_828
                  replace hF_828 := cndF.pos hF_828 hc7
                  revert hF_828
                  revert v_827
                  intro v_830 hF_829; obtain rfl : .bool (y_279 == 7) = v_830 := Eq.symm hF_829
                  replace S1 := S1.put (by decide : 109 < 176) (.bool (y_279 == 7))
                  refine fill_nil S1 ?_; clear S1; intro a_ S1
                  replace R1 := R1.step hW
                  rw [show (y_279 == 7) = false from hl8] at S1
                  have S0 := S.defers; replace S := S1; clear S1
                  refine wl_pure (l' := [(114, v1), (109, .bool false), (57, .bool (t_206.2 != 0)), (10, .int .i64 t_206.2), (9, .pointer (some (⟨b_213, 0, .none⟩ : Addr))), (1, v1)]) S tys tys_ok 1 (by kernel_rfl) ?_; clear S; intro a S
                  refine wpList_nil ?_
                  exact RPost.mk_ S rfl S0 ⟨fun _ => ⟨fun _ => R1, fun k_ => absurd hc8 k_⟩, fun k_ => absurd hc7 k_⟩ (Below.refl _ _)
                · have hl8 : (y_279 == 7) = true := (by simpa using hc8)
                  have S1 := S
                  intro v_831 hF_832
                  replace hF_832 := cndF.pos hF_832 hc7
                  revert hF_832
                  revert v_831
                  intro v_834 hF_833; obtain rfl : .bool (y_279 == 7) = v_834 := Eq.symm hF_833
                  replace S1 := S1.put (by decide : 109 < 176) (.bool (y_279 == 7))
                  refine fill_nil S1 ?_; clear S1; intro a_ S1
                  rw [show (y_279 == 7) = true from hl8] at S1
                  have S0 := S.defers; replace S := S1; clear S1
                  refine wl_pure (l' := [(114, undef), (109, .bool true), (57, .bool (t_206.2 != 0)), (10, .int .i64 t_206.2), (9, .pointer (some (⟨b_213, 0, .none⟩ : Addr))), (1, v1)]) S tys tys_ok 1 (by kernel_rfl) ?_; clear S; intro a S
                  refine wpList_nil ?_
                  exact RPost.mk_ S rfl S0 ⟨fun _ => ⟨fun k_ => absurd k_ hc8, fun _ => rfl⟩, fun k_ => absurd hc7 k_⟩ (Below.refl _ _)
              · have hl7 : q_268 = false := Bool.eq_false_iff.2 hc7
                have S1 := S
                intro v_835 hF_836
                obtain rfl := cndF.neg hF_836 hc7
                replace S1 := S1.put (by decide : 109 < 176) (undef)
                refine fill_nil S1 ?_; clear S1; intro a_ S1
                have S0 := S.defers; replace S := S1; clear S1
                refine wl_pure (l' := [(114, undef), (109, undef), (57, .bool (t_206.2 != 0)), (10, .int .i64 t_206.2), (9, .pointer (some (⟨b_213, 0, .none⟩ : Addr))), (1, v1)]) S tys tys_ok 1 (by kernel_rfl) ?_; clear S; intro a S
                refine wpList_nil ?_
                exact RPost.mk_ S rfl S0 ⟨fun k_ => absurd k_ hc7, fun _ => rfl⟩ (Below.refl _ _)
            refine RunAll.cons (cndF q_268 true (cndF (y_279 == 7) false (isEl (.int .u8) (Kx K w.heap.size [some b_213, some b_44, some b_1]) y_293))) [(cndF q_268 true (cndF (y_279 == 7) false (isRep (.sl (.int .u8)) (Kx K w.heap.size [some b_213, some b_44, some b_1]) x1)), 114), (cndF q_268 true (eqv (.bool (y_279 == 7))), 109)] rfl rfl ?_ ?_
            · intro W_ hW
              by_cases hc7 : q_268 = true
              · have hl7 : q_268 = true := hc7
                by_cases hc8 : (y_279 == 7) = false
                · have hl8 : (y_279 == 7) = false := hc8
                  have S1 := S
                  intro v_837 hF_838
                  replace hF_838 := cndF.pos hF_838 hc7
                  replace hF_838 := cndF.pos hF_838 hc8
                  revert hF_838
                  revert v_837
                  intro v_840 hF_839; replace hF_839 : RepV _ _ _ _ _ := hF_839
                  replace S1 := S1.put (by decide : 114 < 176) (v_840)
                  intro v_841 hF_842
                  replace hF_842 := cndF.pos hF_842 hc7
                  revert hF_842
                  revert v_841
                  intro v_844 hF_843; obtain rfl : .bool (y_279 == 7) = v_844 := Eq.symm hF_843
                  replace S1 := S1.put (by decide : 109 < 176) (.bool (y_279 == 7))
                  refine fill_nil S1 ?_; clear S1; intro a_ S1
                  replace W := W.step hW
                  rw [show (y_279 == 7) = false from hl8] at S1
                  have S0 := S.defers; replace S := S1; clear S1
                  obtain ⟨ey_279, eq_285, _⟩ := (HG_278).1 hc7
                  obtain ⟨ey_287, ey_293, ex_299, _⟩ := (HG_286 hc7).1 hc8
                  refine w_go S rfl (op_indexAddr S rfl ty23 rfl rfl rfl hF_839 rfl ey_293 ?_)
                  clear S; intro a p_845 R_846 H_847 S
                  refine wpList_nil ?_
                  exact RPost.mk_ S rfl S0 ⟨fun _ => ⟨fun _ => ⟨_, rfl, R_846, H_847⟩, fun k_ => absurd hc8 k_⟩, fun k_ => absurd hc7 k_⟩ (Below.refl _ _)
                · have hl8 : (y_279 == 7) = true := (by simpa using hc8)
                  have S1 := S
                  intro v_848 hF_849
                  replace hF_849 := cndF.pos hF_849 hc7
                  obtain rfl := cndF.neg hF_849 hc8
                  replace S1 := S1.put (by decide : 114 < 176) (undef)
                  intro v_850 hF_851
                  replace hF_851 := cndF.pos hF_851 hc7
                  revert hF_851
                  revert v_850
                  intro v_853 hF_852; obtain rfl : .bool (y_279 == 7) = v_853 := Eq.symm hF_852
                  replace S1 := S1.put (by decide : 109 < 176) (.bool (y_279 == 7))
                  refine fill_nil S1 ?_; clear S1; intro a_ S1
                  rw [show (y_279 == 7) = true from hl8] at S1
                  have S0 := S.defers; replace S := S1; clear S1
                  refine wl_pure (l' := [(115, undef), (109, .bool true), (114, undef), (57, .bool (t_206.2 != 0)), (10, .int .i64 t_206.2), (9, .pointer (some (⟨b_213, 0, .none⟩ : Addr))), (1, v1)]) S tys tys_ok 1 (by kernel_rfl) ?_; clear S; intro a S
                  refine wpList_nil ?_
                  exact RPost.mk_ S rfl S0 ⟨fun _ => ⟨fun k_ => absurd k_ hc8, fun _ => rfl⟩, fun k_ => absurd hc7 k_⟩ (Below.refl _ _)
              · have hl7 : q_268 = false := Bool.eq_false_iff.2 hc7
                have S1 := S
                intro v_854 hF_855
                obtain rfl := cndF.neg hF_855 hc7
                replace S1 := S1.put (by decide : 114 < 176) (undef)
                intro v_856 hF_857
                obtain rfl := cndF.neg hF_857 hc7
                replace S1 := S1.put (by decide : 109 < 176) (undef)
                refine fill_nil S1 ?_; clear S1; intro a_ S1
                have S0 := S.defers; replace S := S1; clear S1
                refine wl_pure (l' := [(115, undef), (109, undef), (114, undef), (57, .bool (t_206.2 != 0)), (10, .int .i64 t_206.2), (9, .pointer (some (⟨b_213, 0, .none⟩ : Addr))), (1, v1)]) S tys tys_ok 1 (by kernel_rfl) ?_; clear S; intro a S
                refine wpList_nil ?_
                exact RPost.mk_ S rfl S0 ⟨fun k_ => absurd k_ hc7, fun _ => rfl⟩ (Below.refl _ _)
            refine RunAll.cons (cndF q_268 true (cndF (y_279 == 7) false (isI .u8 y_293))) [(cndF q_268 true (cndF (y_279 == 7) false (isEl (.int .u8) (Kx K w.heap.size [some b_213, some b_44, some b_1]) y_293)), 115), (cndF q_268 true (eqv (.bool (y_279 == 7))), 109)] rfl rfl ?_ ?_
            · intro W_ hW
              by_cases hc7 : q_268 = true
              · have hl7 : q_268 = true := hc7
                by_cases hc8 : (y_279 == 7) = false
                · have hl8 : (y_279 == 7) = false := hc8
                  have S1 := S
                  intro v_858 hF_859
                  replace hF_859 := cndF.pos hF_859 hc7
                  replace hF_859 := cndF.pos hF_859 hc8
                  revert hF_859
                  revert v_858
                  rintro _ ⟨p_862, rfl, R_863, H_864⟩
                  replace S1 := S1.put (by decide : 115 < 176) (.pointer (some p_862))
                  intro v_865 hF_866
                  replace hF_866 := cndF.pos hF_866 hc7
                  revert hF_866
                  revert v_865
                  intro v_868 hF_867; obtain rfl : .bool (y_279 == 7) = v_868 := Eq.symm hF_867
                  replace S1 := S1.put (by decide : 109 < 176) (.bool (y_279 == 7))
                  refine fill_nil S1 ?_; clear S1; intro a_ S1
                  rw [show (y_279 == 7) = false from hl8] at S1
                  have S0 := S.defers; replace S := S1; clear S1
                  obtain ⟨ey_279, eq_285, _⟩ := (HG_278).1 hc7
                  obtain ⟨ey_287, ey_293, ex_299, _⟩ := (HG_286 hc7).1 hc8
                  refine w_go S rfl (op_load (t := (.int .u8)) (x := y_293) S rfl ty5 rfl rfl rfl R_863 ?_)
                  clear S; intro a v_869 R_870 S
                  obtain ⟨rfl, GR_870⟩ := RepV.int R_870
                  refine wpList_nil ?_
                  exact RPost.mk_ S rfl S0 ⟨fun _ => ⟨fun _ => ⟨rfl, GR_870⟩, fun k_ => absurd hc8 k_⟩, fun k_ => absurd hc7 k_⟩ (Below.refl _ _)
                · have hl8 : (y_279 == 7) = true := (by simpa using hc8)
                  have S1 := S
                  intro v_871 hF_872
                  replace hF_872 := cndF.pos hF_872 hc7
                  obtain rfl := cndF.neg hF_872 hc8
                  replace S1 := S1.put (by decide : 115 < 176) (undef)
                  intro v_873 hF_874
                  replace hF_874 := cndF.pos hF_874 hc7
                  revert hF_874
                  revert v_873
                  intro v_876 hF_875; obtain rfl : .bool (y_279 == 7) = v_876 := Eq.symm hF_875
                  replace S1 := S1.put (by decide : 109 < 176) (.bool (y_279 == 7))
                  refine fill_nil S1 ?_; clear S1; intro a_ S1
                  rw [show (y_279 == 7) = true from hl8] at S1
                  have S0 := S.defers; replace S := S1; clear S1
                  refine wl_pure (l' := [(116, undef), (109, .bool true), (115, undef), (57, .bool (t_206.2 != 0)), (10, .int .i64 t_206.2), (9, .pointer (some (⟨b_213, 0, .none⟩ : Addr))), (1, v1)]) S tys tys_ok 1 (by kernel_rfl) ?_; clear S; intro a S
                  refine wpList_nil ?_
                  exact RPost.mk_ S rfl S0 ⟨fun _ => ⟨fun k_ => absurd k_ hc8, fun _ => rfl⟩, fun k_ => absurd hc7 k_⟩ (Below.refl _ _)
              · have hl7 : q_268 = false := Bool.eq_false_iff.2 hc7
                have S1 := S
                intro v_877 hF_878
                obtain rfl := cndF.neg hF_878 hc7
                replace S1 := S1.put (by decide : 115 < 176) (undef)
                intro v_879 hF_880
                obtain rfl := cndF.neg hF_880 hc7
                replace S1 := S1.put (by decide : 109 < 176) (undef)
                refine fill_nil S1 ?_; clear S1; intro a_ S1
                have S0 := S.defers; replace S := S1; clear S1
                refine wl_pure (l' := [(116, undef), (109, undef), (115, undef), (57, .bool (t_206.2 != 0)), (10, .int .i64 t_206.2), (9, .pointer (some (⟨b_213, 0, .none⟩ : Addr))), (1, v1)]) S tys tys_ok 1 (by kernel_rfl) ?_; clear S; intro a S
                refine wpList_nil ?_
                exact RPost.mk_ S rfl S0 ⟨fun k_ => absurd k_ hc7, fun _ => rfl⟩ (Below.refl _ _)
            refine RunAll.cons (cndF q_268 true (cndF (y_279 == 7) false (isI .i64 x_299))) [(cndF q_268 true (cndF (y_279 == 7) false (isI .u8 y_293)), 116), (cndF q_268 true (eqv (.bool (y_279 == 7))), 109)] rfl rfl ?_ ?_
            · intro W_ hW
              by_cases hc7 : q_268 = true
              · have hl7 : q_268 = true := hc7
                by_cases hc8 : (y_279 == 7) = false
                · have hl8 : (y_279 == 7) = false := hc8
                  have S1 := S
                  intro v_881 hF_882
                  replace hF_882 := cndF.pos hF_882 hc7
                  replace hF_882 := cndF.pos hF_882 hc8
                  revert hF_882
                  revert v_881
                  rintro _ ⟨rfl, hF_883⟩
                  replace S1 := S1.put (by decide : 116 < 176) (.int .u8 y_293)
                  intro v_885 hF_886
                  replace hF_886 := cndF.pos hF_886 hc7
                  revert hF_886
                  revert v_885
                  intro v_888 hF_887; obtain rfl : .bool (y_279 == 7) = v_888 := Eq.symm hF_887
                  replace S1 := S1.put (by decide : 109 < 176) (.bool (y_279 == 7))
                  refine fill_nil S1 ?_; clear S1; intro a_ S1
                  rw [show (y_279 == 7) = false from hl8] at S1
                  have S0 := S.defers; replace S := S1; clear S1
                  obtain ⟨ey_279, eq_285, _⟩ := (HG_278).1 hc7
                  obtain ⟨ey_287, ey_293, ex_299, _⟩ := (HG_286 hc7).1 hc8
                  refine w_go S rfl (op_shl S .i64 .u8 rfl rfl rfl rfl rfl ex_299 ?_)
                  clear S; intro a S
                  refine wpList_nil ?_
                  exact RPost.mk_ S rfl S0 ⟨fun _ => ⟨fun _ => ⟨rfl, (inR_shl ex_299)⟩, fun k_ => absurd hc8 k_⟩, fun k_ => absurd hc7 k_⟩ (Below.refl _ _)
                · have hl8 : (y_279 == 7) = true := (by simpa using hc8)
                  have S1 := S
                  intro v_889 hF_890
                  replace hF_890 := cndF.pos hF_890 hc7
                  obtain rfl := cndF.neg hF_890 hc8
                  replace S1 := S1.put (by decide : 116 < 176) (undef)
                  intro v_891 hF_892
                  replace hF_892 := cndF.pos hF_892 hc7
                  revert hF_892
                  revert v_891
                  intro v_894 hF_893; obtain rfl : .bool (y_279 == 7) = v_894 := Eq.symm hF_893
                  replace S1 := S1.put (by decide : 109 < 176) (.bool (y_279 == 7))
                  refine fill_nil S1 ?_; clear S1; intro a_ S1
                  rw [show (y_279 == 7) = true from hl8] at S1
                  have S0 := S.defers; replace S := S1; clear S1
                  refine wl_pure (l' := [(117, undef), (109, .bool true), (116, undef), (57, .bool (t_206.2 != 0)), (10, .int .i64 t_206.2), (9, .pointer (some (⟨b_213, 0, .none⟩ : Addr))), (1, v1)]) S tys tys_ok 1 (by kernel_rfl) ?_; clear S; intro a S
                  refine wpList_nil ?_
                  exact RPost.mk_ S rfl S0 ⟨fun _ => ⟨fun k_ => absurd k_ hc8, fun _ => rfl⟩, fun k_ => absurd hc7 k_⟩ (Below.refl _ _)
              · have hl7 : q_268 = false := Bool.eq_false_iff.2 hc7
                have S1 := S
                intro v_895 hF_896
                obtain rfl := cndF.neg hF_896 hc7
                replace S1 := S1.put (by decide : 116 < 176) (undef)
                intro v_897 hF_898
                obtain rfl := cndF.neg hF_898 hc7
                replace S1 := S1.put (by decide : 109 < 176) (undef)
                refine fill_nil S1 ?_; clear S1; intro a_ S1
                have S0 := S.defers; replace S := S1; clear S1
                refine wl_pure (l' := [(117, undef), (109, undef), (116, undef), (57, .bool (t_206.2 != 0)), (10, .int .i64 t_206.2), (9, .pointer (some (⟨b_213, 0, .none⟩ : Addr))), (1, v1)]) S tys tys_ok 1 (by kernel_rfl) ?_; clear S; intro a S
                refine wpList_nil ?_
                exact RPost.mk_ S rfl S0 ⟨fun k_ => absurd k_ hc7, fun _ => rfl⟩ (Below.refl _ _)
            refine RunAll.cons (cndF q_268 true (cndF (y_279 == 7) false (eqv (.bool (decide (y_287 < x_299)))))) [(cndF q_268 true (cndF (y_279 == 7) false (isI .i64 y_287)), 113), (cndF q_268 true (cndF (y_279 == 7) false (isI .i64 x_299)), 117), (cndF q_268 true (eqv (.bool (y_279 == 7))), 109)] rfl rfl ?_ ?_
            · intro W_ hW
              by_cases hc7 : q_268 = true
              · have hl7 : q_268 = true := hc7
                by_cases hc8 : (y_279 == 7) = false
                · have hl8 : (y_279 == 7) = false := hc8
                  have S1 := S
                  intro v_899 hF_900
                  replace hF_900 := cndF.pos hF_900 hc7
                  replace hF_900 := cndF.pos hF_900 hc8
                  revert hF_900
                  revert v_899
                  rintro _ ⟨rfl, hF_901⟩
                  replace S1 := S1.put (by decide : 113 < 176) (.int .i64 y_287)
                  intro v_903 hF_904
                  replace hF_904 := cndF.pos hF_904 hc7
                  replace hF_904 := cndF.pos hF_904 hc8
                  revert hF_904
                  revert v_903
                  rintro _ ⟨rfl, hF_905⟩
                  replace S1 := S1.put (by decide : 117 < 176) (.int .i64 x_299)
                  intro v_907 hF_908
                  replace hF_908 := cndF.pos hF_908 hc7
                  revert hF_908
                  revert v_907
                  intro v_910 hF_909; obtain rfl : .bool (y_279 == 7) = v_910 := Eq.symm hF_909
                  replace S1 := S1.put (by decide : 109 < 176) (.bool (y_279 == 7))
                  refine fill_nil S1 ?_; clear S1; intro a_ S1
                  rw [show (y_279 == 7) = false from hl8] at S1
                  have S0 := S.defers; replace S := S1; clear S1
                  refine wl_pure (l' := [(118, .bool (decide (y_287 < x_299))), (109, .bool false), (117, .int .i64 x_299), (113, .int .i64 y_287), (57, .bool (t_206.2 != 0)), (10, .int .i64 t_206.2), (9, .pointer (some (⟨b_213, 0, .none⟩ : Addr))), (1, v1)]) S tys tys_ok 1 (by kernel_rfl) ?_; clear S; intro a S
                  refine wpList_nil ?_
                  exact RPost.mk_ S rfl S0 ⟨fun _ => ⟨fun _ => rfl, fun k_ => absurd hc8 k_⟩, fun k_ => absurd hc7 k_⟩ (Below.refl _ _)
                · have hl8 : (y_279 == 7) = true := (by simpa using hc8)
                  have S1 := S
                  intro v_911 hF_912
                  replace hF_912 := cndF.pos hF_912 hc7
                  obtain rfl := cndF.neg hF_912 hc8
                  replace S1 := S1.put (by decide : 113 < 176) (undef)
                  intro v_913 hF_914
                  replace hF_914 := cndF.pos hF_914 hc7
                  obtain rfl := cndF.neg hF_914 hc8
                  replace S1 := S1.put (by decide : 117 < 176) (undef)
                  intro v_915 hF_916
                  replace hF_916 := cndF.pos hF_916 hc7
                  revert hF_916
                  revert v_915
                  intro v_918 hF_917; obtain rfl : .bool (y_279 == 7) = v_918 := Eq.symm hF_917
                  replace S1 := S1.put (by decide : 109 < 176) (.bool (y_279 == 7))
                  refine fill_nil S1 ?_; clear S1; intro a_ S1
                  rw [show (y_279 == 7) = true from hl8] at S1
                  have S0 := S.defers; replace S := S1; clear S1
                  refine wl_pure (l' := [(118, undef), (109, .bool true), (117, undef), (113, undef), (57, .bool (t_206.2 != 0)), (10, .int .i64 t_206.2), (9, .pointer (some (⟨b_213, 0, .none⟩ : Addr))), (1, v1)]) S tys tys_ok 1 (by kernel_rfl) ?_; clear S; intro a S
                  refine wpList_nil ?_
                  exact RPost.mk_ S rfl S0 ⟨fun _ => ⟨fun k_ => absurd k_ hc8, fun _ => rfl⟩, fun k_ => absurd hc7 k_⟩ (Below.refl _ _)
              · have hl7 : q_268 = false := Bool.eq_false_iff.2 hc7
                have S1 := S
                intro v_919 hF_920
                obtain rfl := cndF.neg hF_920 hc7
                replace S1 := S1.put (by decide : 113 < 176) (undef)
                intro v_921 hF_922
                obtain rfl := cndF.neg hF_922 hc7
                replace S1 := S1.put (by decide : 117 < 176) (undef)
                intro v_923 hF_924
                obtain rfl := cndF.neg hF_924 hc7
                replace S1 := S1.put (by decide : 109 < 176) (undef)
                refine fill_nil S1 ?_; clear S1; intro a_ S1
                have S0 := S.defers; replace S := S1; clear S1
                refine wl_pure (l' := [(118, undef), (109, undef), (117, undef), (113, undef), (57, .bool (t_206.2 != 0)), (10, .int .i64 t_206.2), (9, .pointer (some (⟨b_213, 0, .none⟩ : Addr))), (1, v1)]) S tys tys_ok 1 (by kernel_rfl) ?_; clear S; intro a S
                refine wpList_nil ?_
                exact RPost.mk_ S rfl S0 ⟨fun k_ => absurd k_ hc7, fun _ => rfl⟩ (Below.refl _ _)
            refine RunAll.cons (cndF q_268 true (eqv (.bool q_285))) [(cndF q_268 true (eqv (.bool (y_279 == 7))), 109), (cndF q_268 true (cndF (y_279 == 7) false (eqv (.bool (decide (y_287 < x_299))))), 118), (eqv (.bool q_268), 104)] rfl rfl ?_ ?_
            · intro W_ hW
              by_cases hc7 : q_268 = true
              · have hl7 : q_268 = true := hc7
                by_cases hc8 : (y_279 == 7) = false
                · have hl8 : (y_279 == 7) = false := hc8
                  have S1 := S
                  intro v_925 hF_926
                  replace hF_926 := cndF.pos hF_926 hc7
                  revert hF_926
                  revert v_925
                  intro v_928 hF_927; obtain rfl : .bool (y_279 == 7) = v_928 := Eq.symm hF_927
                  replace S1 := S1.put (by decide : 109 < 176) (.bool (y_279 == 7))
                  intro v_929 hF_930
                  replace hF_930 := cndF.pos hF_930 hc7
                  replace hF_930 := cndF.pos hF_930 hc8
                  revert hF_930
                  revert v_929
                  intro v_932 hF_931; obtain rfl : .bool (decide (y_287 < x_299)) = v_932 := Eq.symm hF_931
                  replace S1 := S1.put (by decide : 118 < 176) (.bool (decide (y_287 < x_299)))
                  intro v_934 hF_933; obtain rfl : .bool q_268 = v_934 := Eq.symm hF_933
                  replace S1 := S1.put (by decide : 104 < 176) (.bool q_268)
                  refine fill_nil S1 ?_; clear S1; intro a_ S1
                  rw [show q_268 = true from hl7] at S1
                  rw [show (y_279 == 7) = false from hl8] at S1
                  have S0 := S.defers; replace S := S1; clear S1
                  refine wl_pure (l' := [(119, .bool (decide (y_287 < x_299))), (104, .bool true), (118, .bool (decide (y_287 < x_299))), (109, .bool false), (57, .bool (t_206.2 != 0)), (10, .int .i64 t_206.2), (9, .pointer (some (⟨b_213, 0, .none⟩ : Addr))), (1, v1)]) S tys tys_ok 1 (by kernel_rfl) ?_; clear S; intro a S
                  refine wpList_nil ?_
                  exact RPost.mk_ S rfl S0 ⟨fun _ => (congrArg Value.bool ((HG_286 hc7).1 hc8).2.2.2), fun k_ => absurd hc7 k_⟩ (Below.refl _ _)
                · have hl8 : (y_279 == 7) = true := (by simpa using hc8)
                  have S1 := S
                  intro v_935 hF_936
                  replace hF_936 := cndF.pos hF_936 hc7
                  revert hF_936
                  revert v_935
                  intro v_938 hF_937; obtain rfl : .bool (y_279 == 7) = v_938 := Eq.symm hF_937
                  replace S1 := S1.put (by decide : 109 < 176) (.bool (y_279 == 7))
                  intro v_939 hF_940
                  replace hF_940 := cndF.pos hF_940 hc7
                  obtain rfl := cndF.neg hF_940 hc8
                  replace S1 := S1.put (by decide : 118 < 176) (undef)
                  intro v_942 hF_941; obtain rfl : .bool q_268 = v_942 := Eq.symm hF_941
                  replace S1 := S1.put (by decide : 104 < 176) (.bool q_268)
                  refine fill_nil S1 ?_; clear S1; intro a_ S1
                  rw [show q_268 = true from hl7] at S1
                  rw [show (y_279 == 7) = true from hl8] at S1
                  have S0 := S.defers; replace S := S1; clear S1
                  refine wl_pure (l' := [(119, .bool true), (104, .bool true), (118, undef), (109, .bool true), (57, .bool (t_206.2 != 0)), (10, .int .i64 t_206.2), (9, .pointer (some (⟨b_213, 0, .none⟩ : Addr))), (1, v1)]) S tys tys_ok 1 (by kernel_rfl) ?_; clear S; intro a S
                  refine wpList_nil ?_
                  exact RPost.mk_ S rfl S0 ⟨fun _ => (congrArg Value.bool ((HG_286 hc7).2 hc8)), fun k_ => absurd hc7 k_⟩ (Below.refl _ _)
              · have hl7 : q_268 = false := Bool.eq_false_iff.2 hc7
                have S1 := S
                intro v_943 hF_944
                obtain rfl := cndF.neg hF_944 hc7
                replace S1 := S1.put (by decide : 109 < 176) (undef)
                intro v_945 hF_946
                obtain rfl := cndF.neg hF_946 hc7
                replace S1 := S1.put (by decide : 118 < 176) (undef)
                intro v_948 hF_947; obtain rfl : .bool q_268 = v_948 := Eq.symm hF_947
                replace S1 := S1.put (by decide : 104 < 176) (.bool q_268)
                refine fill_nil S1 ?_; clear S1; intro a_ S1
                rw [show q_268 = false from hl7] at S1
                have S0 := S.defers; replace S := S1; clear S1
                refine wl_pure (l' := [(119, undef), (104, .bool false), (118, undef), (109, undef), (57, .bool (t_206.2 != 0)), (10, .int .i64 t_206.2), (9, .pointer (some (⟨b_213, 0, .none⟩ : Addr))), (1, v1)]) S tys tys_ok 1 (by kernel_rfl) ?_; clear S; intro a S
                refine wpList_nil ?_
                exact RPost.mk_ S rfl S0 ⟨fun k_ => absurd k_ hc7, fun _ => rfl⟩ (Below.refl _ _)
            refine RunAll.cons (eqv (.bool q_277)) [(eqv (.bool q_268), 104), (cndF q_268 true (eqv (.bool q_285)), 119)] rfl rfl ?_ ?_
            · intro W_ hW
              by_cases hc7 : q_268 = true
              · have hl7 : q_268 = true := hc7
                have S1 := S
                intro v_950 hF_949; obtain rfl : .bool q_268 = v_950 := Eq.symm hF_949
                replace S1 := S1.put (by decide : 104 < 176) (.bool q_268)
                intro v_951 hF_952
                replace hF_952 := cndF.pos hF_952 hc7
                revert hF_952
                revert v_951
                intro v_954 hF_953; obtain rfl : .bool q_285 = v_954 := Eq.symm hF_953
                replace S1 := S1.put (by decide : 119 < 176) (.bool q_285)
                refine fill_nil S1 ?_; clear S1; intro a_ S1
                rw [show q_268 = true from hl7] at S1
                have S0 := S.defers; replace S := S1; clear S1
                refine wl_pure (l' := [(120, .bool q_285), (119, .bool q_285), (104, .bool true), (57, .bool (t_206.2 != 0)), (10, .int .i64 t_206.2), (9, .pointer (some (⟨b_213, 0, .none⟩ : Addr))), (1, v1)]) S tys tys_ok 1 (by kernel_rfl) ?_; clear S; intro a S
                refine wpList_nil ?_
                exact RPost.mk_ S rfl S0 (congrArg Value.bool ((HG_278).1 hc7).2.2) (Below.refl _ _)
              · have hl7 : q_268 = false := Bool.eq_false_iff.2 hc7
                have S1 := S
                intro v_956 hF_955; obtain rfl : .bool q_268 = v_956 := Eq.symm hF_955
                replace S1 := S1.put (by decide : 104 < 176) (.bool q_268)
                intro v_957 hF_958
                obtain rfl := cndF.neg hF_958 hc7
                replace S1 := S1.put (by decide : 119 < 176) (undef)
                refine fill_nil S1 ?_; clear S1; intro a_ S1
                rw [show q_268 = false from hl7] at S1
                have S0 := S.defers; replace S := S1; clear S1
                refine wl_pure (l' := [(120, .bool false), (119, undef), (104, .bool false), (57, .bool (t_206.2 != 0)), (10, .int .i64 t_206.2), (9, .pointer (some (⟨b_213, 0, .none⟩ : Addr))), (1, v1)]) S tys tys_ok 1 (by kernel_rfl) ?_; clear S; intro a S
                refine wpList_nil ?_
                exact RPost.mk_ S rfl S0 (congrArg Value.bool ((HG_278).2 hc7)) (Below.refl _ _)
            refine RunAll.cons (eqv (.bool q_277)) [(eqv (.bool q_277), 120)] rfl rfl ?_ ?_
            · intro W_ hW
              have S1 := S
              intro v_960 hF_959; obtain rfl : .bool q_277 = v_960 := Eq.symm hF_959
              replace S1 := S1.put (by decide : 120 < 176) (.bool q_277)
              refine fill_nil S1 ?_; clear S1; intro a_ S1
              have S0 := S.defers; replace S := S1; clear S1
              refine wl_pure (l' := [(121, .bool q_277), (120, .bool q_277), (57, .bool (t_206.2 != 0)), (10, .int .i64 t_206.2), (9, .pointer (some (⟨b_213, 0, .none⟩ : Addr))), (1, v1)]) S tys tys_ok 1 (by kernel_rfl) ?_; clear S; intro a S
              refine wpList_nil ?_
              exact RPost.mk_ S rfl S0 rfl (Below.refl _ _)
            refine RunAll.cons (cndF q_277 true (isRep (.sl (.int .u8)) (Kx K w.heap.size [some b_213, some b_44, some b_1]) x1)) [(eqv (.bool q_277), 121)] rfl rfl ?_ ?_
            · intro W_ hW
              by_cases hc9 : q_277 = true
              · have hl9 : q_277 = true := hc9
                have S1 := S
                intro v_962 hF_961; obtain rfl : .bool q_277 = v_962 := Eq.symm hF_961
                replace S1 := S1.put (by decide : 121 < 176) (.bool q_277)
                refine fill_nil S1 ?_; clear S1; intro a_ S1
                replace R1 := R1.step hW
                rw [show q_277 = true from hl9] at S1
                have S0 := S.defers; replace S := S1; clear S1
                refine wl_pure (l' := [(122, v1), (121, .bool true), (57, .bool (t_206.2 != 0)), (10, .int .i64 t_206.2), (9, .pointer (some (⟨b_213, 0, .none⟩ : Addr))), (1, v1)]) S tys tys_ok 1 (by kernel_rfl) ?_; clear S; intro a S
                refine wpList_nil ?_
                exact RPost.mk_ S rfl S0 ⟨fun _ => R1, fun k_ => absurd hc9 k_⟩ (Below.refl _ _)
              · have hl9 : q_277 = false := Bool.eq_false_iff.2 hc9
                have S1 := S
                intro v_964 hF_963; obtain rfl : .bool q_277 = v_964 := Eq.symm hF_963
                replace S1 := S1.put (by decide : 121 < 176) (.bool q_277)
                refine fill_nil S1 ?_; clear S1; intro a_ S1
                rw [show q_277 = false from hl9] at S1
                have S0 := S.defers; replace S := S1; clear S1
                refine wl_pure (l' := [(122, undef), (121, .bool false), (57, .bool (t_206.2 != 0)), (10, .int .i64 t_206.2), (9, .pointer (some (⟨b_213, 0, .none⟩ : Addr))), (1, v1)]) S tys tys_ok 1 (by kernel_rfl) ?_; clear S; intro a S
                refine wpList_nil ?_
                exact RPost.mk_ S rfl S0 ⟨fun k_ => absurd k_ hc9, fun _ => rfl⟩ (Below.refl _ _)
            refine RunAll.cons (cndF q_277 true (isEl (.int .u8) (Kx K w.heap.size [some b_213, some b_44, some b_1]) y_302)) [(cndF q_277 true (isRep (.sl (.int .u8)) (Kx K w.heap.size [some b_213, some b_44, some b_1]) x1), 122), (eqv (.bool q_277), 121)] rfl rfl ?_ ?_
            · intro W_ hW
              by_cases hc9 : q_277 = true
              · have hl9 : q_277 = true := hc9
                have S1 := S
                intro v_965 hF_966
                replace hF_966 := cndF.pos hF_966 hc9
                revert hF_966
                revert v_965
                intro v_968 hF_967; replace hF_967 : RepV _ _ _ _ _ := hF_967
                replace S1 := S1.put (by decide : 122 < 176) (v_968)
                intro v_970 hF_969; obtain rfl : .bool q_277 = v_970 := Eq.symm hF_969
                replace S1 := S1.put (by decide : 121 < 176) (.bool q_277)
                refine fill_nil S1 ?_; clear S1; intro a_ S1
                replace W := W.step hW
                rw [show q_277 = true from hl9] at S1
                have S0 := S.defers; replace S := S1; clear S1
                obtain ⟨ey_302, _⟩ := (HG_301).1 hc9
                refine w_go S rfl (op_indexAddr S rfl ty23 rfl rfl rfl hF_967 rfl ey_302 ?_)
                clear S; intro a p_971 R_972 H_973 S
                refine wpList_nil ?_
                exact RPost.mk_ S rfl S0 ⟨fun _ => ⟨_, rfl, R_972, H_973⟩, fun k_ => absurd hc9 k_⟩ (Below.refl _ _)
              · have hl9 : q_277 = false := Bool.eq_false_iff.2 hc9
                have S1 := S
                intro v_974 hF_975
                obtain rfl := cndF.neg hF_975 hc9
                replace S1 := S1.put (by decide : 122 < 176) (undef)
                intro v_977 hF_976; obtain rfl : .bool q_277 = v_977 := Eq.symm hF_976
                replace S1 := S1.put (by decide : 121 < 176) (.bool q_277)
                refine fill_nil S1 ?_; clear S1; intro a_ S1
                rw [show q_277 = false from hl9] at S1
                have S0 := S.defers; replace S := S1; clear S1
                refine wl_pure (l' := [(123, undef), (121, .bool false), (122, undef), (57, .bool (t_206.2 != 0)), (10, .int .i64 t_206.2), (9, .pointer (some (⟨b_213, 0, .none⟩ : Addr))), (1, v1)]) S tys tys_ok 1 (by kernel_rfl) ?_; clear S; intro a S
                refine wpList_nil ?_
                exact RPost.mk_ S rfl S0 ⟨fun k_ => absurd k_ hc9, fun _ => rfl⟩ (Below.refl _ _)
            refine RunAll.cons (cndF q_277 true (isI .u8 y_302)) [(cndF q_277 true (isEl (.int .u8) (Kx K w.heap.size [some b_213, some b_44, some b_1]) y_302), 123), (eqv (.bool q_277), 121)] rfl rfl ?_ ?_
            · intro W_ hW
              by_cases hc9 : q_277 = true
              · have hl9 : q_277 = true := hc9
                have S1 := S
                intro v_978 hF_979
                replace hF_979 := cndF.pos hF_979 hc9
                revert hF_979
                revert v_978
                rintro _ ⟨p_982, rfl, R_983, H_984⟩
                replace S1 := S1.put (by decide : 123 < 176) (.pointer (some p_982))
                intro v_986 hF_985; obtain rfl : .bool q_277 = v_986 := Eq.symm hF_985
                replace S1 := S1.put (by decide : 121 < 176) (.bool q_277)
                refine fill_nil S1 ?_; clear S1; intro a_ S1
                rw [show q_277 = true from hl9] at S1
                have S0 := S.defers; replace S := S1; clear S1
                obtain ⟨ey_302, _⟩ := (HG_301).1 hc9
                refine w_go S rfl (op_load (t := (.int .u8)) (x := y_302) S rfl ty5 rfl rfl rfl R_983 ?_)
                clear S; intro a v_987 R_988 S
                obtain ⟨rfl, GR_988⟩ := RepV.int R_988
                refine wpList_nil ?_
                exact RPost.mk_ S rfl S0 ⟨fun _ => ⟨rfl, GR_988⟩, fun k_ => absurd hc9 k_⟩ (Below.refl _ _)
              · have hl9 : q_277 = false := Bool.eq_false_iff.2 hc9
                have S1 := S
                intro v_989 hF_990
                obtain rfl := cndF.neg hF_990 hc9
                replace S1 := S1.put (by decide : 123 < 176) (undef)
                intro v_992 hF_991; obtain rfl : .bool q_277 = v_992 := Eq.symm hF_991
                replace S1 := S1.put (by decide : 121 < 176) (.bool q_277)
                refine fill_nil S1 ?_; clear S1; intro a_ S1
                rw [show q_277 = false from hl9] at S1
                have S0 := S.defers; replace S := S1; clear S1
                refine wl_pure (l' := [(124, undef), (121, .bool false), (123, undef), (57, .bool (t_206.2 != 0)), (10, .int .i64 t_206.2), (9, .pointer (some (⟨b_213, 0, .none⟩ : Addr))), (1, v1)]) S tys tys_ok 1 (by kernel_rfl) ?_; clear S; intro a S
                refine wpList_nil ?_
                exact RPost.mk_ S rfl S0 ⟨fun k_ => absurd k_ hc9, fun _ => rfl⟩ (Below.refl _ _)
            refine RunAll.cons (cndF q_277 true (eqv (.bool (y_302 == 255)))) [(cndF q_277 true (isI .u8 y_302), 124), (eqv (.bool q_277), 121)] rfl rfl ?_ ?_
            · intro W_ hW
              by_cases hc9 : q_277 = true
              · have hl9 : q_277 = true := hc9
                have S1 := S
                intro v_993 hF_994
                replace hF_994 := cndF.pos hF_994 hc9
                revert hF_994
                revert v_993
                rintro _ ⟨rfl, hF_995⟩
                replace S1 := S1.put (by decide : 124 < 176) (.int .u8 y_302)
                intro v_998 hF_997; obtain rfl : .bool q_277 = v_998 := Eq.symm hF_997
                replace S1 := S1.put (by decide : 121 < 176) (.bool q_277)
                refine fill_nil S1 ?_; clear S1; intro a_ S1
                rw [show q_277 = true from hl9] at S1
                have S0 := S.defers; replace S := S1; clear S1
                refine wl_pure (l' := [(125, .bool (y_302 == 255)), (121, .bool true), (124, .int .u8 y_302), (57, .bool (t_206.2 != 0)), (10, .int .i64 t_206.2), (9, .pointer (some (⟨b_213, 0, .none⟩ : Addr))), (1, v1)]) S tys tys_ok 1 (by kernel_rfl) ?_; clear S; intro a S
                refine wpList_nil ?_
                exact RPost.mk_ S rfl S0 ⟨fun _ => rfl, fun k_ => absurd hc9 k_⟩ (Below.refl _ _)
              · have hl9 : q_277 = false := Bool.eq_false_iff.2 hc9
                have S1 := S
                intro v_999 hF_1000
                obtain rfl := cndF.neg hF_1000 hc9
                replace S1 := S1.put (by decide : 124 < 176) (undef)
                intro v_1002 hF_1001; obtain rfl : .bool q_277 = v_1002 := Eq.symm hF_1001
                replace S1 := S1.put (by decide : 121 < 176) (.bool q_277)
                refine fill_nil S1 ?_; clear S1; intro a_ S1
                rw [show q_277 = false from hl9] at S1
                have S0 := S.defers; replace S := S1; clear S1
                refine wl_pure (l' := [(125, undef), (121, .bool false), (124, undef), (57, .bool (t_206.2 != 0)), (10, .int .i64 t_206.2), (9, .pointer (some (⟨b_213, 0, .none⟩ : Addr))), (1, v1)]) S tys tys_ok 1 (by kernel_rfl) ?_; clear S; intro a S
                refine wpList_nil ?_
                exact RPost.mk_ S rfl S0 ⟨fun k_ => absurd k_ hc9, fun _ => rfl⟩ (Below.refl _ _)
            refine RunAll.cons (eqv (.bool q_300)) [(eqv (.bool q_277), 121), (cndF q_277 true (eqv (.bool (y_302 == 255))), 125)] rfl rfl ?_ ?_
            · intro W_ hW
              by_cases hc9 : q_277 = true
              · have hl9 : q_277 = true := hc9
                have S1 := S
                intro v_1004 hF_1003; obtain rfl : .bool q_277 = v_1004 := Eq.symm hF_1003
                replace S1 := S1.put (by decide : 121 < 176) (.bool q_277)
                intro v_1005 hF_1006
                replace hF_1006 := cndF.pos hF_1006 hc9
                revert hF_1006
                revert v_1005
                intro v_1008 hF_1007; obtain rfl : .bool (y_302 == 255) = v_1008 := Eq.symm hF_1007
                replace S1 := S1.put (by decide : 125 < 176) (.bool (y_302 == 255))
                refine fill_nil S1 ?_; clear S1; intro a_ S1
                rw [show q_277 = true from hl9] at S1
                have S0 := S.defers; replace S := S1; clear S1
                refine wl_pure (l' := [(126, .bool (y_302 == 255)), (125, .bool (y_302 == 255)), (121, .bool true), (57, .bool (t_206.2 != 0)), (10, .int .i64 t_206.2), (9, .pointer (some (⟨b_213, 0, .none⟩ : Addr))), (1, v1)]) S tys tys_ok 1 (by kernel_rfl) ?_; clear S; intro a S
                refine wpList_nil ?_
                exact RPost.mk_ S rfl S0 (congrArg Value.bool ((HG_301).1 hc9).2) (Below.refl _ _)
              · have hl9 : q_277 = false := Bool.eq_false_iff.2 hc9
                have S1 := S
                intro v_1010 hF_1009; obtain rfl : .bool q_277 = v_1010 := Eq.symm hF_1009
                replace S1 := S1.put (by decide : 121 < 176) (.bool q_277)
                intro v_1011 hF_1012
                obtain rfl := cndF.neg hF_1012 hc9
                replace S1 := S1.put (by decide : 125 < 176) (undef)
                refine fill_nil S1 ?_; clear S1; intro a_ S1
                rw [show q_277 = false from hl9] at S1
                have S0 := S.defers; replace S := S1; clear S1
                refine wl_pure (l' := [(126, .bool false), (125, undef), (121, .bool false), (57, .bool (t_206.2 != 0)), (10, .int .i64 t_206.2), (9, .pointer (some (⟨b_213, 0, .none⟩ : Addr))), (1, v1)]) S tys tys_ok 1 (by kernel_rfl) ?_; clear S; intro a S
                refine wpList_nil ?_
                exact RPost.mk_ S rfl S0 (congrArg Value.bool ((HG_301).2 hc9)) (Below.refl _ _)
            refine RunAll.cons (eqv (.bool q_300)) [(eqv (.bool q_300), 126)] rfl rfl ?_ ?_
            · intro W_ hW
              have S1 := S
              intro v_1014 hF_1013; obtain rfl : .bool q_300 = v_1014 := Eq.symm hF_1013
              replace S1 := S1.put (by decide : 126 < 176) (.bool q_300)
              refine fill_nil S1 ?_; clear S1; intro a_ S1
              have S0 := S.defers; replace S := S1; clear S1
              refine wl_pure (l' := [(11, .bool q_300), (126, .bool q_300), (57, .bool (t_206.2 != 0)), (10, .int .i64 t_206.2), (9, .pointer (some (⟨b_213, 0, .none⟩ : Addr))), (1, v1)]) S tys tys_ok 1 (by kernel_rfl) ?_; clear S; intro a S
              refine wpList_nil ?_
              exact RPost.mk_ S rfl S0 rfl (Below.refl _ _)
            exact trivial
          intro w_1015 hb_1016
          refine EndE.some_ rfl ?_
          intro v_1018 hF_1017; replace hF_1017 : RepV _ _ _ _ _ := hF_1017
          replace S := S.put (by decide : 58 < 176) (v_1018)
          refine EndE.some_ rfl ?_
          rintro _ ⟨rfl, hF_1019⟩
          replace S := S.put (by decide : 59 < 176) (.int .i64 (lenI x1))
          refine EndE.some_ rfl ?_
          intro v_1022 hF_1021; obtain rfl : .bool ((lenI x1) == 9) = v_1022 := Eq.symm hF_1021
          replace S := S.put (by decide : 60 < 176) (.bool ((lenI x1) == 9))
          refine EndE.some_ rfl ?_
          intro v_1024 hF_1023; obtain rfl : .bool ((lenI x1) == 9) = v_1024 := Eq.symm hF_1023
          replace S := S.put (by decide : 61 < 176) (.bool ((lenI x1) == 9))
          refine EndE.some_ rfl ?_
          intro v_1025 _
          replace S := S.put (by decide : 62 < 176) (v_1025)
          refine EndE.some_ rfl ?_
          intro v_1026 _
          replace S := S.put (by decide : 63 < 176) (v_1026)
          refine EndE.some_ rfl ?_
          intro v_1027 _
          replace S := S.put (by decide : 64 < 176) (v_1027)
          refine EndE.some_ rfl ?_
          intro v_1028 _
          replace S := S.put (by decide : 65 < 176) (v_1028)
          refine EndE.some_ rfl ?_
          intro v_1030 hF_1029; obtain rfl : .bool q_220 = v_1030 := Eq.symm hF_1029
          replace S := S.put (by decide : 66 < 176) (.bool q_220)
          refine EndE.some_ rfl ?_
          intro v_1032 hF_1031; obtain rfl : .bool q_220 = v_1032 := Eq.symm hF_1031
          replace S := S.put (by decide : 67 < 176) (.bool q_220)
          refine EndE.some_ rfl ?_
          intro v_1033 _
          replace S := S.put (by decide : 68 < 176) (v_1033)
          refine EndE.some_ rfl ?_
          intro v_1034 _
          replace S := S.put (by decide : 69 < 176) (v_1034)
          refine EndE.some_ rfl ?_
          intro v_1035 _
          replace S := S.put (by decide : 70 < 176) (v_1035)
          refine EndE.some_ rfl ?_
          intro v_1036 _
          replace S := S.put (by decide : 71 < 176) (v_1036)
          refine EndE.some_ rfl ?_
          intro v_1038 hF_1037; obtain rfl : .bool q_228 = v_1038 := Eq.symm hF_1037
          replace S := S.put (by decide : 72 < 176) (.bool q_228)
          refine EndE.some_ rfl ?_
          intro v_1040 hF_1039; obtain rfl : .bool q_228 = v_1040 := Eq.symm hF_1039
          replace S := S.put (by decide : 73 < 176) (.bool q_228)
          refine EndE.some_ rfl ?_
          intro v_1041 _
          replace S := S.put (by decide : 74 < 176) (v_1041)
          refine EndE.some_ rfl ?_
          intro v_1042 _
          replace S := S.put (by decide : 75 < 176) (v_1042)
          refine EndE.some_ rfl ?_
          intro v_1043 _
          replace S := S.put (by decide : 76 < 176) (v_1043)
          refine EndE.some_ rfl ?_
          intro v_1044 _
          replace S := S.put (by decide : 77 < 176) (v_1044)
          refine EndE.some_ rfl ?_
          intro v_1046 hF_1045; obtain rfl : .bool q_236 = v_1046 := Eq.symm hF_1045
          replace S := S.put (by decide : 78 < 176) (.bool q_236)
          refine EndE.some_ rfl ?_
          intro v_1048 hF_1047; obtain rfl : .bool q_236 = v_1048 := Eq.symm hF_1047
          replace S := S.put (by decide : 79 < 176) (.bool q_236)
          refine EndE.some_ rfl ?_
          intro v_1049 _
          replace S := S.put (by decide : 80 < 176) (v_1049)
          refine EndE.some_ rfl ?_
          intro v_1050 _
          replace S := S.put (by decide : 81 < 176) (v_1050)
          refine EndE.some_ rfl ?_
          intro v_1051 _
          replace S := S.put (by decide : 82 < 176) (v_1051)
          refine EndE.some_ rfl ?_
          intro v_1052 _
          replace S := S.put (by decide : 83 < 176) (v_1052)
          refine EndE.some_ rfl ?_
          intro v_1054 hF_1053; obtain rfl : .bool q_244 = v_1054 := Eq.symm hF_1053
          replace S := S.put (by decide : 84 < 176) (.bool q_244)
          refine EndE.some_ rfl ?_
          intro v_1056 hF_1055; obtain rfl : .bool q_244 = v_1056 := Eq.symm hF_1055
          replace S := S.put (by decide : 85 < 176) (.bool q_244)
          refine EndE.some_ rfl ?_
          intro v_1057 _
          replace S := S.put (by decide : 86 < 176) (v_1057)
          refine EndE.some_ rfl ?_
          intro v_1058 _
          replace S := S.put (by decide : 87 < 176) (v_1058)
          refine EndE.some_ rfl ?_
          intro v_1059 _
          replace S := S.put (by decide : 88 < 176) (v_1059)
          refine EndE.some_ rfl ?_
          intro v_1060 _
          replace S := S.put (by decide : 89 < 176) (v_1060)
          refine EndE.some_ rfl ?_
          intro v_1062 hF_1061; obtain rfl : .bool q_252 = v_1062 := Eq.symm hF_1061
          replace S := S.put (by decide : 90 < 176) (.bool q_252)
          refine EndE.some_ rfl ?_
          intro v_1064 hF_1063; obtain rfl : .bool q_252 = v_1064 := Eq.symm hF_1063
          replace S := S.put (by decide : 91 < 176) (.bool q_252)
          refine EndE.some_ rfl ?_
          intro v_1065 _
          replace S := S.put (by decide : 92 < 176) (v_1065)
          refine EndE.some_ rfl ?_
          intro v_1066 _
          replace S := S.put (by decide : 93 < 176) (v_1066)
          refine EndE.some_ rfl ?_
          intro v_1067 _
          replace S := S.put (by decide : 94 < 176) (v_1067)
          refine EndE.some_ rfl ?_
          intro v_1068 _
          replace S := S.put (by decide : 95 < 176) (v_1068)
          refine EndE.some_ rfl ?_
          intro v_1070 hF_1069; obtain rfl : .bool q_260 = v_1070 := Eq.symm hF_1069
          replace S := S.put (by decide : 96 < 176) (.bool q_260)
          refine EndE.some_ rfl ?_
          intro v_1072 hF_1071; obtain rfl : .bool q_260 = v_1072 := Eq.symm hF_1071
          replace S := S.put (by decide : 97 < 176) (.bool q_260)
          refine EndE.some_ rfl ?_
          intro v_1073 _
          replace S := S.put (by decide : 98 < 176) (v_1073)
          refine EndE.some_ rfl ?_
          intro v_1074 _
          replace S := S.put (by decide : 99 < 176) (v_1074)
          refine EndE.some_ rfl ?_
          intro v_1075 _
          replace S := S.put (by decide : 100 < 176) (v_1075)
          refine EndE.some_ rfl ?_
          intro v_1076 _
          replace S := S.put (by decide : 101 < 176) (v_1076)
          refine EndE.some_ rfl ?_
          intro v_1077 _
          replace S := S.put (by decide : 102 < 176) (v_1077)
          refine EndE.some_ rfl ?_
          intro v_1079 hF_1078; obtain rfl : .bool q_268 = v_1079 := Eq.symm hF_1078
          replace S := S.put (by decide : 103 < 176) (.bool q_268)
          refine EndE.some_ rfl ?_
          intro v_1081 hF_1080; obtain rfl : .bool q_268 = v_1081 := Eq.symm hF_1080
          replace S := S.put (by decide : 104 < 176) (.bool q_268)
          refine EndE.some_ rfl ?_
          intro v_1082 _
          replace S := S.put (by decide : 105 < 176) (v_1082)
          refine EndE.some_ rfl ?_
          intro v_1083 _
          replace S := S.put (by decide : 106 < 176) (v_1083)
          refine EndE.some_ rfl ?_
          intro v_1084 _
          replace S := S.put (by decide : 107 < 176) (v_1084)
          refine EndE.some_ rfl ?_
          intro v_1085 _
          replace S := S.put (by decide : 108 < 176) (v_1085)
          refine EndE.some_ rfl ?_
          intro v_1086 _
          replace S := S.put (by decide : 109 < 176) (v_1086)
          refine EndE.some_ rfl ?_
          intro v_1087 _
          replace S := S.put (by decide : 110 < 176) (v_1087)
          refine EndE.some_ rfl ?_
          intro v_1088 _
          replace S := S.put (by decide : 111 < 176) (v_1088)
          refine EndE.some_ rfl ?_
          intro v_1089 _
          replace S := S.put (by decide : 112 < 176) (v_1089)
          refine EndE.some_ rfl ?_
          intro v_1090 _
          replace S := S.put (by decide : 113 < 176) (v_1090)
          refine EndE.some_ rfl ?_
          intro v_1091 _
          replace S := S.put (by decide : 114 < 176) (v_1091)
          refine EndE.some_ rfl ?_
          intro v_1092 _
          replace S := S.put (by decide : 115 < 176) (v_1092)
          refine EndE.some_ rfl ?_
          intro v_1093 _
          replace S := S.put (by decide : 116 < 176) (v_1093)
          refine EndE.some_ rfl ?_
          intro v_1094 _
          replace S := S.put (by decide : 117 < 176) (v_1094)
          refine EndE.some_ rfl ?_
          intro v_1095 _
          replace S := S.put (by decide : 118 < 176) (v_1095)
          refine EndE.some_ rfl ?_
          intro v_1096 _
          replace S := S.put (by decide : 119 < 176) (v_1096)
          refine EndE.some_ rfl ?_
          intro v_1098 hF_1097; obtain rfl : .bool q_277 = v_1098 := Eq.symm hF_1097
          replace S := S.put (by decide : 120 < 176) (.bool q_277)
          refine EndE.some_ rfl ?_
          intro v_1100 hF_1099; obtain rfl : .bool q_277 = v_1100 := Eq.symm hF_1099
          replace S := S.put (by decide : 121 < 176) (.bool q_277)
          refine EndE.some_ rfl ?_
          intro v_1101 _
          replace S := S.put (by decide : 122 < 176) (v_1101)
          refine EndE.some_ rfl ?_
          intro v_1102 _
          replace S := S.put (by decide : 123 < 176) (v_1102)
          refine EndE.some_ rfl ?_
          intro v_1103 _
          replace S := S.put (by decide : 124 < 176) (v_1103)
          refine EndE.some_ rfl ?_
          intro v_1104 _
          replace S := S.put (by decide : 125 < 176) (v_1104)
          refine EndE.some_ rfl ?_
          intro v_1106 hF_1105; obtain rfl : .bool q_300 = v_1106 := Eq.symm hF_1105
          replace S := S.put (by decide : 126 < 176) (.bool q_300)
          refine EndE.some_ rfl ?_
          intro v_1108 hF_1107; obtain rfl : .bool q_300 = v_1108 := Eq.symm hF_1107
          replace S := S.put (by decide : 11 < 176) (.bool q_300)
          refine endE_nil S ?_; clear S; intro a S
          replace R1 := R1.step hb_1016
          replace B_2 := B_2.step hb_1016
          replace B_45 := B_45.step hb_1016
          replace B_214 := B_214.step hb_1016
          replace W := W.step hb_1016
          refine then_n ?_
          replace S := S.sub (l' := [(11, .bool q_300), (10, .int .i64 t_206.2), (9, .pointer (some (⟨b_213, 0, .none⟩ : Addr))), (1, v1)]) (by exact ⟨rfl, rfl, rfl, rfl, trivial⟩)
          refine wp_seq ?_
          refine wp_region_lit ?_
          refine wl_pure (l' := [(128, v1), (127, .int .i64 t_206.2), (11, .bool q_300), (10, .int .i64 t_206.2), (9, .pointer (some (⟨b_213, 0, .none⟩ : Addr))), (1, v1)]) S tys tys_ok 2 (by kernel_rfl) ?_
          clear S; intro a S
          refine w_go S rfl (op_len (K := _) S rfl ty23 rfl rfl rfl R1 ?_)
          clear S; intro a G_1109 S
          obtain ⟨t_1110, et_1110, h⟩ := bindS h
          refine w_go S rfl (op_call (vs := [.int .i64 t_206.2, .int .i64 (lenI x1), .int .i64 9]) S rfl cb22 rfl rfl rfl (c22 (Kx K w.heap.size [some b_213, some b_44, some b_1]) n w_1015 t_206.2 GR_210 (lenI x1) G_1109 9 (by decide) et_1110) ?_)
          rintro _ w_1114 ⟨v_1111, rfl, R_1112, hb_1113⟩; refine ⟨_, rfl, ?_⟩
          replace R_1112 := RepV.back R_1112 W
          clear S; intro a S
          replace R1 := R1.step hb_1113
          replace B_2 := B_2.step hb_1113
          replace B_45 := B_45.step hb_1113
          replace B_214 := B_214.step hb_1113
          replace W := W.step hb_1113
          obtain rfl := RepV.bool R_1112
          refine wl_pure (l' := [(131, .bool t_1110), (130, .bool t_1110), (129, .int .i64 (lenI x1)), (128, v1), (127, .int .i64 t_206.2), (11, .bool q_300), (10, .int .i64 t_206.2), (9, .pointer (some (⟨b_213, 0, .none⟩ : Addr))), (1, v1)]) S tys tys_ok 1 (by kernel_rfl) ?_
          clear S; intro a S
          obtain ⟨q_1115, eq_1115, h⟩ := bindS h
          refine seg 4 (fun a_ w_ => w_1114 = w_ ∧ St 176 a_ [(135, .bool q_1115), (11, .bool q_300), (9, .pointer (some (⟨b_213, 0, .none⟩ : Addr)))]) ?_ ?_
          · by_cases hc : t_1110 = true
            · rw [if_pos hc] at eq_1115; rw [hc] at S
              refine wl_pure (l' := [(132, .pointer (some ((⟨b_213, 0, .none⟩ : Addr).add (coff (.pair (.int .u8) (.pair (.int .u8) (.pair (.int .u8) (.sl .bool)))) 0)))), (131, .bool true), (130, .bool true), (129, .int .i64 (lenI x1)), (128, v1), (127, .int .i64 t_206.2), (11, .bool q_300), (10, .int .i64 t_206.2), (9, .pointer (some (⟨b_213, 0, .none⟩ : Addr))), (1, v1)]) S tys tys_ok 1 (by kernel_rfl) ?_
              clear S; intro a S
              refine w_go S rfl (op_load (t := (.int .u8)) (x := t_206.1.1) S rfl ty5 rfl rfl rfl (RepAt.add 0 (RepAt.st B_214.at_)) ?_)
              clear S; intro a v_1116 R_1117 S
              obtain ⟨rfl, GR_1117⟩ := RepV.int R_1117
              refine wl_pure (l' := [(135, .bool (t_206.1.1 == 0)), (134, .bool (t_206.1.1 == 0)), (133, .int .u8 t_206.1.1), (132, .pointer (some ((⟨b_213, 0, .none⟩ : Addr).add (coff (.pair (.int .u8) (.pair (.int .u8) (.pair (.int .u8) (.sl .bool)))) 0)))), (131, .bool true), (130, .bool true), (129, .int .i64 (lenI x1)), (128, v1), (127, .int .i64 t_206.2), (11, .bool q_300), (10, .int .i64 t_206.2), (9, .pointer (some (⟨b_213, 0, .none⟩ : Addr))), (1, v1)]) S tys tys_ok 2 (by kernel_rfl) ?_
              clear S; intro a S
              obtain rfl := Option.some.inj eq_1115
              exact ⟨rfl, S.sub (by exact ⟨rfl, rfl, rfl, trivial⟩)⟩
            · rw [if_neg hc] at eq_1115; rw [show t_1110 = false from Bool.eq_false_iff.2 hc] at S
              refine wl_pure (l' := [(135, .bool false), (134, undef), (133, undef), (132, undef), (131, .bool false), (130, .bool false), (129, .int .i64 (lenI x1)), (128, v1), (127, .int .i64 t_206.2), (11, .bool q_300), (10, .int .i64 t_206.2), (9, .pointer (some (⟨b_213, 0, .none⟩ : Addr))), (1, v1)]) S tys tys_ok 4 (by kernel_rfl) ?_
              clear S; intro a S
              obtain rfl := Option.some.inj eq_1115
              exact ⟨rfl, S.sub (by exact ⟨rfl, rfl, rfl, trivial⟩)⟩
          clear S eq_1115; rintro a _ ⟨rfl, S⟩
          refine wl_pure (l' := [(136, .bool q_1115), (135, .bool q_1115), (11, .bool q_300), (9, .pointer (some (⟨b_213, 0, .none⟩ : Addr)))]) S tys tys_ok 1 (by kernel_rfl) ?_
          clear S; intro a S
          obtain ⟨q_1118, eq_1118, h⟩ := bindS h
          refine seg 4 (fun a_ w_ => w_1114 = w_ ∧ St 176 a_ [(140, .bool q_1118), (11, .bool q_300), (9, .pointer (some (⟨b_213, 0, .none⟩ : Addr)))]) ?_ ?_
          · by_cases hc : q_1115 = true
            · rw [if_pos hc] at eq_1118; rw [hc] at S
              refine wl_pure (l' := [(137, .pointer (some ((⟨b_213, 0, .none⟩ : Addr).add (coff (.pair (.int .u8) (.pair (.int .u8) (.pair (.int .u8) (.sl .bool)))) 1)))), (136, .bool true), (135, .bool true), (11, .bool q_300), (9, .pointer (some (⟨b_213, 0, .none⟩ : Addr)))]) S tys tys_ok 1 (by kernel_rfl) ?_
              clear S; intro a S
              refine w_go S rfl (op_load (t := (.int .u8)) (x := t_206.1.2.1) S rfl ty5 rfl rfl rfl (RepAt.add 1 (RepAt.st B_214.at_)) ?_)
              clear S; intro a v_1119 R_1120 S
              obtain ⟨rfl, GR_1120⟩ := RepV.int R_1120
              refine wl_pure (l' := [(140, .bool (t_206.1.2.1 == 0)), (139, .bool (t_206.1.2.1 == 0)), (138, .int .u8 t_206.1.2.1), (137, .pointer (some ((⟨b_213, 0, .none⟩ : Addr).add (coff (.pair (.int .u8) (.pair (.int .u8) (.pair (.int .u8) (.sl .bool)))) 1)))), (136, .bool true), (135, .bool true), (11, .bool q_300), (9, .pointer (some (⟨b_213, 0, .none⟩ : Addr)))]) S tys tys_ok 2 (by kernel_rfl) ?_
              clear S; intro a S
              obtain rfl := Option.some.inj eq_1118
              exact ⟨rfl, S.sub (by exact ⟨rfl, rfl, rfl, trivial⟩)⟩
            · rw [if_neg hc] at eq_1118; rw [show q_1115 = false from Bool.eq_false_iff.2 hc] at S
              refine wl_pure (l' := [(140, .bool false), (139, undef), (138, undef), (137, undef), (136, .bool false), (135, .bool false), (11, .bool q_300), (9, .pointer (some (⟨b_213, 0, .none⟩ : Addr)))]) S tys tys_ok 4 (by kernel_rfl) ?_
              clear S; intro a S
              obtain rfl := Option.some.inj eq_1118
              exact ⟨rfl, S.sub (by exact ⟨rfl, rfl, rfl, trivial⟩)⟩
          clear S eq_1118; rintro a _ ⟨rfl, S⟩
          refine wl_pure (l' := [(141, .bool q_1118), (140, .bool q_1118), (11, .bool q_300), (9, .pointer (some (⟨b_213, 0, .none⟩ : Addr)))]) S tys tys_ok 1 (by kernel_rfl) ?_
          clear S; intro a S
          obtain ⟨q_1121, eq_1121, h⟩ := bindS h
          refine seg 4 (fun a_ w_ => w_1114 = w_ ∧ St 176 a_ [(145, .bool q_1121), (11, .bool q_300), (9, .pointer (some (⟨b_213, 0, .none⟩ : Addr)))]) ?_ ?_
          · by_cases hc : q_1118 = true
            · rw [if_pos hc] at eq_1121; rw [hc] at S
              refine wl_pure (l' := [(142, .pointer (some ((⟨b_213, 0, .none⟩ : Addr).add (coff (.pair (.int .u8) (.pair (.int .u8) (.pair (.int .u8) (.sl .bool)))) 2)))), (141, .bool true), (140, .bool true), (11, .bool q_300), (9, .pointer (some (⟨b_213, 0, .none⟩ : Addr)))]) S tys tys_ok 1 (by kernel_rfl) ?_
              clear S; intro a S
              refine w_go S rfl (op_load (t := (.int .u8)) (x := t_206.1.2.2.1) S rfl ty5 rfl rfl rfl (RepAt.add 2 (RepAt.st B_214.at_)) ?_)
              clear S; intro a v_1122 R_1123 S
              obtain ⟨rfl, GR_1123⟩ := RepV.int R_1123
              refine wl_pure (l' := [(145, .bool (t_206.1.2.2.1 == 0)), (144, .bool (t_206.1.2.2.1 == 0)), (143, .int .u8 t_206.1.2.2.1), (142, .pointer (some ((⟨b_213, 0, .none⟩ : Addr).add (coff (.pair (.int .u8) (.pair (.int .u8) (.pair (.int .u8) (.sl .bool)))) 2)))), (141, .bool true), (140, .bool true), (11, .bool q_300), (9, .pointer (some (⟨b_213, 0, .none⟩ : Addr)))]) S tys tys_ok 2 (by kernel_rfl) ?_
              clear S; intro a S
              obtain rfl := Option.some.inj eq_1121
              exact ⟨rfl, S.sub (by exact ⟨rfl, rfl, rfl, trivial⟩)⟩
            · rw [if_neg hc] at eq_1121; rw [show q_1118 = false from Bool.eq_false_iff.2 hc] at S
              refine wl_pure (l' := [(145, .bool false), (144, undef), (143, undef), (142, undef), (141, .bool false), (140, .bool false), (11, .bool q_300), (9, .pointer (some (⟨b_213, 0, .none⟩ : Addr)))]) S tys tys_ok 4 (by kernel_rfl) ?_
              clear S; intro a S
              obtain rfl := Option.some.inj eq_1121
              exact ⟨rfl, S.sub (by exact ⟨rfl, rfl, rfl, trivial⟩)⟩
          clear S eq_1121; rintro a _ ⟨rfl, S⟩
          refine wl_pure (l' := [(146, .bool q_1121), (145, .bool q_1121), (11, .bool q_300), (9, .pointer (some (⟨b_213, 0, .none⟩ : Addr)))]) S tys tys_ok 1 (by kernel_rfl) ?_
          clear S; intro a S
          obtain ⟨q_1124, eq_1124, h⟩ := bindS h
          refine seg 5 (fun a_ w_ => w_1114 = w_ ∧ St 176 a_ [(151, .bool q_1124), (11, .bool q_300)]) ?_ ?_
          · by_cases hc : q_1121 = true
            · rw [if_pos hc] at eq_1124; rw [hc] at S
              refine wl_pure (l' := [(147, .pointer (some ((⟨b_213, 0, .none⟩ : Addr).add (coff (.pair (.int .u8) (.pair (.int .u8) (.pair (.int .u8) (.sl .bool)))) 3)))), (146, .bool true), (145, .bool true), (11, .bool q_300), (9, .pointer (some (⟨b_213, 0, .none⟩ : Addr)))]) S tys tys_ok 1 (by kernel_rfl) ?_
              clear S; intro a S
              refine w_go S rfl (op_load (t := (.sl .bool)) (x := t_206.1.2.2.2) S rfl ty64 rfl rfl rfl (RepAt.add 3 (RepAt.st B_214.at_)) ?_)
              clear S; intro a v_1125 R_1126 S
              refine w_go S rfl (op_len (K := _) S rfl ty64 rfl rfl rfl R_1126 ?_)
              clear S; intro a G_1127 S
              refine wl_pure (l' := [(151, .bool ((lenI t_206.1.2.2.2) == 0)), (150, .bool ((lenI t_206.1.2.2.2) == 0)), (149, .int .i64 (lenI t_206.1.2.2.2)), (148, v_1125), (147, .pointer (some ((⟨b_213, 0, .none⟩ : Addr).add (coff (.pair (.int .u8) (.pair (.int .u8) (.pair (.int .u8) (.sl .bool)))) 3)))), (146, .bool true), (145, .bool true), (11, .bool q_300), (9, .pointer (some (⟨b_213, 0, .none⟩ : Addr)))]) S tys tys_ok 2 (by kernel_rfl) ?_
              clear S; intro a S
              obtain rfl := Option.some.inj eq_1124
              exact ⟨rfl, S.sub (by exact ⟨rfl, rfl, trivial⟩)⟩
            · rw [if_neg hc] at eq_1124; rw [show q_1121 = false from Bool.eq_false_iff.2 hc] at S
              refine wl_pure (l' := [(151, .bool false), (150, undef), (149, undef), (148, undef), (147, undef), (146, .bool false), (145, .bool false), (11, .bool q_300), (9, .pointer (some (⟨b_213, 0, .none⟩ : Addr)))]) S tys tys_ok 5 (by kernel_rfl) ?_
              clear S; intro a S
              obtain rfl := Option.some.inj eq_1124
              exact ⟨rfl, S.sub (by exact ⟨rfl, rfl, trivial⟩)⟩
          clear S eq_1124; rintro a _ ⟨rfl, S⟩
          refine wl_pure (l' := [(152, .bool q_1124), (151, .bool q_1124), (11, .bool q_300)]) S tys tys_ok 1 (by kernel_rfl) ?_
          clear S; intro a S
          obtain ⟨q_1128, eq_1128, h⟩ := bindS h
          refine seg 3 (fun a_ w_ => w_1114 = w_ ∧ St 176 a_ [(155, .bool q_1128)]) ?_ ?_
          · by_cases hc : q_1124 = true
            · rw [if_pos hc] at eq_1128; rw [hc] at S
              refine wl_pure (l' := [(155, .bool (!q_300)), (154, .bool (!q_300)), (153, .bool q_300), (152, .bool true), (151, .bool true), (11, .bool q_300)]) S tys tys_ok 3 (by kernel_rfl) ?_
              clear S; intro a S
              obtain rfl := Option.some.inj eq_1128
              exact ⟨rfl, S.sub (by exact ⟨rfl, trivial⟩)⟩
            · rw [if_neg hc] at eq_1128; rw [show q_1124 = false from Bool.eq_false_iff.2 hc] at S
              refine wl_pure (l' := [(155, .bool false), (154, undef), (153, undef), (152, .bool false), (151, .bool false), (11, .bool q_300)]) S tys tys_ok 3 (by kernel_rfl) ?_
              clear S; intro a S
              obtain rfl := Option.some.inj eq_1128
              exact ⟨rfl, S.sub (by exact ⟨rfl, trivial⟩)⟩
          clear S eq_1128; rintro a _ ⟨rfl, S⟩
          refine wl_pure (l' := [(156, .bool q_1128), (155, .bool q_1128)]) S tys tys_ok 1 (by kernel_rfl) ?_
          clear S; intro a S
          obtain ⟨q_1129, eq_1129, h⟩ := bindS h
          refine seg 2 (fun a_ w_ => St 176 a_ [(158, .bool q_1129)] ∧ Wd w w_ [some b_213, some b_44, some b_1] ∧ Bx (.st (.pair (.int .u8) (.pair (.int .u8) (.pair (.int .u8) (.sl .bool))))) 66 w_ (Kx K w.heap.size [some b_213, some b_44, some b_1]) b_1 x0 ∧ Bx (.st (.pair (.int .u8) (.pair (.int .u8) (.pair (.int .u8) (.sl .bool))))) 66 w_ (Kx K w.heap.size [some b_213, some b_44, some b_1]) b_44 t_37.1 ∧ Bx (.st (.pair (.int .u8) (.pair (.int .u8) (.pair (.int .u8) (.sl .bool))))) 66 w_ (Kx K w.heap.size [some b_213, some b_44, some b_1]) b_213 t_206.1) ?_ ?_
          · by_cases hc : q_1128 = true
            · rw [if_pos hc] at eq_1129; rw [hc] at S
              obtain ⟨t_1130, et_1130, eq_1129⟩ := bindS eq_1129
              refine w_go S rfl (op_call (vs := []) S rfl cb11 rfl rfl rfl (c11 (Kx K w.heap.size [some b_213, some b_44, some b_1]) n w_1114  et_1130) ?_)
              rintro _ w_1134 ⟨v_1131, rfl, R_1132, hb_1133⟩; refine ⟨_, rfl, ?_⟩
              replace R_1132 := RepV.back R_1132 W
              clear S; intro a S
              replace B_2 := B_2.step hb_1133
              replace B_45 := B_45.step hb_1133
              replace B_214 := B_214.step hb_1133
              replace W := W.step hb_1133
              obtain rfl := RepV.bool R_1132
              refine wl_pure (l' := [(158, .bool t_1130), (157, .bool t_1130), (156, .bool true), (155, .bool true)]) S tys tys_ok 1 (by kernel_rfl) ?_
              clear S; intro a S
              obtain rfl := Option.some.inj eq_1129
              exact ⟨S.sub (by exact ⟨rfl, trivial⟩), W, B_2, B_45, B_214⟩
            · rw [if_neg hc] at eq_1129; rw [show q_1128 = false from Bool.eq_false_iff.2 hc] at S
              refine wl_pure (l' := [(158, .bool false), (157, undef), (156, .bool false), (155, .bool false)]) S tys tys_ok 2 (by kernel_rfl) ?_
              clear S; intro a S
              obtain rfl := Option.some.inj eq_1129
              exact ⟨S.sub (by exact ⟨rfl, trivial⟩), W, B_2, B_45, B_214⟩
          clear S W eq_1129; rintro a w_1135 ⟨S, W, B_2, B_45, B_214⟩
          refine wl_pure (l' := [(4, .bool q_1129), (158, .bool q_1129)]) S tys tys_ok 1 (by kernel_rfl) ?_
          clear S; intro a S
          refine wpList_nil ?_
          refine then_n ?_
          replace S := S.sub (l' := [(4, .bool q_1129)]) (by exact ⟨rfl, trivial⟩)
          refine wp_ret ?_
          refine then_r ?_
          obtain rfl := Option.some.inj h
          exact b_ret1 S rfl rfl ⟨_, rfl, RepV.mkBool, W.below⟩
        · intro hc
          rw [if_neg (Bool.eq_false_iff.1 hc)] at h
          refine wp_skip ?_
          refine then_n ?_
          replace S := S.sub (l' := [(9, .pointer (some (⟨b_213, 0, .none⟩ : Addr))), (1, v1)]) (by exact ⟨rfl, rfl, trivial⟩)
          refine wp_seq ?_
          obtain ⟨t_1138, et_1138, h⟩ := bindS h
          obtain ⟨q_1143, eq_1143, h⟩ := bindS h
          obtain ⟨x_1148, HG_1144⟩ : ∃ (x_1148 : Int) , ((decide (t_1138 = x1.xs)) = true → (capO t_206.1.2.2.2) = some x_1148 ∧ (x_1148 == (lenI t_206.1.2.2.2)) = q_1143) ∧ (¬ (decide (t_1138 = x1.xs)) = true → false = q_1143) := by
            by_cases hc : (decide (t_1138 = x1.xs)) = true
            · rw [if_pos hc] at eq_1143
              obtain ⟨x_1148, ex_1148, eq_1143⟩ := bindS eq_1143
              exact ⟨x_1148, ⟨fun _ => ⟨ex_1148, Option.some.inj eq_1143⟩, fun k_ => absurd hc k_⟩⟩
            · rw [if_neg hc] at eq_1143
              exact ⟨default, ⟨fun k_ => absurd k_ hc, fun _ => Option.some.inj eq_1143⟩⟩
          obtain ⟨q_1152, eq_1152, h⟩ := bindS h
          obtain ⟨t_1154, HG_1153⟩ : ∃ (t_1154 : (Bool)) , (q_1143 = true → (p11 n) = some t_1154 ∧ t_1154 = q_1152) ∧ (¬ q_1143 = true → false = q_1152) := by
            by_cases hc : q_1143 = true
            · rw [if_pos hc] at eq_1152
              obtain ⟨t_1154, et_1154, eq_1152⟩ := bindS eq_1152
              exact ⟨t_1154, ⟨fun _ => ⟨et_1154, Option.some.inj eq_1152⟩, fun k_ => absurd hc k_⟩⟩
            · rw [if_neg hc] at eq_1152
              exact ⟨default, ⟨fun k_ => absurd k_ hc, fun _ => Option.some.inj eq_1152⟩⟩
          have hR : Rel (Kx K w.heap.size [some b_213, some b_44, some b_1]) Bl := Bl.rel _
          refine wp_region_all hR [isRep (.st (.pair (.int .u8) (.pair (.int .u8) (.pair (.int .u8) (.sl .bool))))) (Kx K w.heap.size [some b_213, some b_44, some b_1]) t_206.1, isS t_1138, isRep (.sl (.int .u8)) (Kx K w.heap.size [some b_213, some b_44, some b_1]) x1, isS x1.xs, eqv (.bool (decide (t_1138 = x1.xs))), eqv (.bool (decide (t_1138 = x1.xs))), cndF (decide (t_1138 = x1.xs)) true (eqv (.pointer (some ((⟨b_213, 0, .none⟩ : Addr).add (coff (.pair (.int .u8) (.pair (.int .u8) (.pair (.int .u8) (.sl .bool)))) 3))))), cndF (decide (t_1138 = x1.xs)) true (isRep (.sl .bool) (Kx K w.heap.size [some b_213, some b_44, some b_1]) t_206.1.2.2.2), cndF (decide (t_1138 = x1.xs)) true (isI .i64 x_1148), cndF (decide (t_1138 = x1.xs)) true (eqv (.pointer (some ((⟨b_213, 0, .none⟩ : Addr).add (coff (.pair (.int .u8) (.pair (.int .u8) (.pair (.int .u8) (.sl .bool)))) 3))))), cndF (decide (t_1138 = x1.xs)) true (isRep (.sl .bool) (Kx K w.heap.size [some b_213, some b_44, some b_1]) t_206.1.2.2.2), cndF (decide (t_1138 = x1.xs)) true (isI .i64 (lenI t_206.1.2.2.2)), cndF (decide (t_1138 = x1.xs)) true (eqv (.bool (x_1148 == (lenI t_206.1.2.2.2)))), eqv (.bool q_1143), eqv (.bool q_1143), cndF q_1143 true (eqv (.bool t_1154)), eqv (.bool q_1152), eqv (.bool q_1152)] [[], [(0, 159)], [], [(2, 161)], [(1, 160), (3, 162)], [(4, 163)], [(5, 164)], [(6, 165), (5, 164)], [(7, 166), (5, 164)], [(5, 164)], [(9, 168), (5, 164)], [(10, 169), (5, 164)], [(8, 167), (11, 170), (5, 164)], [(5, 164), (12, 171)], [(13, 172)], [(14, 173)], [(14, 173), (15, 174)], [(16, 175)]] (by kernel_rfl) (by rw [S.size]; kernel_rfl) (by kernel_rfl) (by kernel_rfl) rfl ⟨(stab_rep hR), stab_S, (stab_rep hR), stab_S, (stab_eqv _), (stab_eqv _), (stab_cnd (stab_eqv _)), (stab_cnd (stab_rep hR)), (stab_cnd stab_I), (stab_cnd (stab_eqv _)), (stab_cnd (stab_rep hR)), (stab_cnd stab_I), (stab_cnd (stab_eqv _)), (stab_eqv _), (stab_eqv _), (stab_cnd (stab_eqv _)), (stab_eqv _), (stab_eqv _), trivial⟩ ?_ ?_
          ·
            refine RunAll.cons (isRep (.st (.pair (.int .u8) (.pair (.int .u8) (.pair (.int .u8) (.sl .bool))))) (Kx K w.heap.size [some b_213, some b_44, some b_1]) t_206.1) [] rfl rfl ?_ ?_
            · intro W_ hW
              have S1 := S
              refine fill_nil S1 ?_; clear S1; intro a_ S1
              replace B_214 := B_214.step hW
              have S0 := S.defers; replace S := S1; clear S1
              refine w_go S rfl (op_load (t := (.st (.pair (.int .u8) (.pair (.int .u8) (.pair (.int .u8) (.sl .bool)))))) (x := t_206.1) S rfl ty66 rfl rfl rfl B_214.at_ ?_)
              clear S; intro a v_1159 R_1160 S
              refine wpList_nil ?_
              exact RPost.mk_ S rfl S0 R_1160 (Below.refl _ _)
            refine RunAll.cons (isS t_1138) [(isRep (.st (.pair (.int .u8) (.pair (.int .u8) (.pair (.int .u8) (.sl .bool))))) (Kx K w.heap.size [some b_213, some b_44, some b_1]) t_206.1, 159)] rfl rfl ?_ ?_
            · intro W_ hW
              have S1 := S
              intro v_1162 hF_1161; replace hF_1161 : RepV _ _ _ _ _ := hF_1161
              replace S1 := S1.put (by decide : 159 < 176) (v_1162)
              refine fill_nil S1 ?_; clear S1; intro a_ S1
              replace W := W.step hW
              have S0 := S.defers; replace S := S1; clear S1
              refine w_go S rfl (op_call (vs := [v_1162]) S rfl cb28 rfl rfl rfl (c28 (Kx K w.heap.size [some b_213, some b_44, some b_1]) n W_ t_206.1 _ hF_1161 et_1138) ?_)
              rintro _ w_1166 ⟨v_1163, rfl, R_1164, hb_1165⟩; refine ⟨_, rfl, ?_⟩
              replace R_1164 := RepV.back R_1164 W
              clear S; intro a S
              obtain ⟨rfl, GR_1164⟩ := RepV.str R_1164
              refine wpList_nil ?_
              exact RPost.mk_ S rfl S0 ⟨rfl, GR_1164⟩ (hb_1165)
            refine RunAll.cons (isRep (.sl (.int .u8)) (Kx K w.heap.size [some b_213, some b_44, some b_1]) x1) [] rfl rfl ?_ ?_
            · intro W_ hW
              have S1 := S
              refine fill_nil S1 ?_; clear S1; intro a_ S1
              replace R1 := R1.step hW
              have S0 := S.defers; replace S := S1; clear S1
              refine wl_pure (l' := [(161, v1), (9, .pointer (some (⟨b_213, 0, .none⟩ : Addr))), (1, v1)]) S tys tys_ok 1 (by kernel_rfl) ?_; clear S; intro a S
              refine wpList_nil ?_
              exact RPost.mk_ S rfl S0 R1 (Below.refl _ _)
            refine RunAll.cons (isS x1.xs) [(isRep (.sl (.int .u8)) (Kx K w.heap.size [some b_213, some b_44, some b_1]) x1, 161)] rfl rfl ?_ ?_
            · intro W_ hW
              have S1 := S
              intro v_1168 hF_1167; replace hF_1167 : RepV _ _ _ _ _ := hF_1167
              replace S1 := S1.put (by decide : 161 < 176) (v_1168)
              refine fill_nil S1 ?_; clear S1; intro a_ S1
              replace W := W.step hW
              have S0 := S.defers; replace S := S1; clear S1
              refine w_go S rfl (op_str (K := _) S rfl ty23 ty9 rfl rfl rfl hF_1167 ?_)
              clear S; intro a S
              refine wpList_nil ?_
              exact RPost.mk_ S rfl S0 ⟨rfl, hF_1167.byt⟩ (Below.refl _ _)
            refine RunAll.cons (eqv (.bool (decide (t_1138 = x1.xs)))) [(isS t_1138, 160), (isS x1.xs, 162)] rfl rfl ?_ ?_
            · intro W_ hW
              have S1 := S
              rintro _ ⟨rfl, hF_1169⟩
              replace S1 := S1.put (by decide : 160 < 176) (.string (strOfNums t_1138))
              rintro _ ⟨rfl, hF_1171⟩
              replace S1 := S1.put (by decide : 162 < 176) (.string (strOfNums x1.xs))
              refine fill_nil S1 ?_; clear S1; intro a_ S1
              have S0 := S.defers; replace S := S1; clear S1
              refine w_go S rfl (op_streq S rfl rfl rfl rfl rfl (hF_1169).1 (hF_1171).1 ?_)
              clear S; intro a S
              refine wpList_nil ?_
              exact RPost.mk_ S rfl S0 rfl (Below.refl _ _)
            refine RunAll.cons (eqv (.bool (decide (t_1138 = x1.xs)))) [(eqv (.bool (decide (t_1138 = x1.xs))), 163)] rfl rfl ?_ ?_
            · intro W_ hW
              have S1 := S
              intro v_1174 hF_1173; obtain rfl : .bool (decide (t_1138 = x1.xs)) = v_1174 := Eq.symm hF_1173
              replace S1 := S1.put (by decide : 163 < 176) (.bool (decide (t_1138 = x1.xs)))
              refine fill_nil S1 ?_; clear S1; intro a_ S1
              have S0 := S.defers; replace S := S1; clear S1
              refine wl_pure (l' := [(164, .bool (decide (t_1138 = x1.xs))), (163, .bool (decide (t_1138 = x1.xs))), (9, .pointer (some (⟨b_213, 0, .none⟩ : Addr))), (1, v1)]) S tys tys_ok 1 (by kernel_rfl) ?_; clear S; intro a S
              refine wpList_nil ?_
              exact RPost.mk_ S rfl S0 rfl (Below.refl _ _)
            refine RunAll.cons (cndF (decide (t_1138 = x1.xs)) true (eqv (.pointer (some ((⟨b_213, 0, .none⟩ : Addr).add (coff (.pair (.int .u8) (.pair (.int .u8) (.pair (.int .u8) (.sl .bool)))) 3)))))) [(eqv (.bool (decide (t_1138 = x1.xs))), 164)] rfl rfl ?_ ?_
            · intro W_ hW
              by_cases hc0 : (decide (t_1138 = x1.xs)) = true
              · have hl0 : (decide (t_1138 = x1.xs)) = true := hc0
                have S1 := S
                intro v_1176 hF_1175; obtain rfl : .bool (decide (t_1138 = x1.xs)) = v_1176 := Eq.symm hF_1175
                replace S1 := S1.put (by decide : 164 < 176) (.bool (decide (t_1138 = x1.xs)))
                refine fill_nil S1 ?_; clear S1; intro a_ S1
                replace B_214 := B_214.step hW
                rw [show (decide (t_1138 = x1.xs)) = true from hl0] at S1
                have S0 := S.defers; replace S := S1; clear S1
                refine wl_pure (l' := [(165, .pointer (some ((⟨b_213, 0, .none⟩ : Addr).add (coff (.pair (.int .u8) (.pair (.int .u8) (.pair (.int .u8) (.sl .bool)))) 3)))), (164, .bool true), (9, .pointer (some (⟨b_213, 0, .none⟩ : Addr))), (1, v1)]) S tys tys_ok 1 (by kernel_rfl) ?_; clear S; intro a S
                refine wpList_nil ?_
                exact RPost.mk_ S rfl S0 ⟨fun _ => rfl, fun k_ => absurd hc0 k_⟩ (Below.refl _ _)
              · have hl0 : (decide (t_1138 = x1.xs)) = false := Bool.eq_false_iff.2 hc0
                have S1 := S
                intro v_1178 hF_1177; obtain rfl : .bool (decide (t_1138 = x1.xs)) = v_1178 := Eq.symm hF_1177
                replace S1 := S1.put (by decide : 164 < 176) (.bool (decide (t_1138 = x1.xs)))
                refine fill_nil S1 ?_; clear S1; intro a_ S1
                rw [show (decide (t_1138 = x1.xs)) = false from hl0] at S1
                have S0 := S.defers; replace S := S1; clear S1
                refine wl_pure (l' := [(165, undef), (164, .bool false), (9, .pointer (some (⟨b_213, 0, .none⟩ : Addr))), (1, v1)]) S tys tys_ok 1 (by kernel_rfl) ?_; clear S; intro a S
                refine wpList_nil ?_
                exact RPost.mk_ S rfl S0 ⟨fun k_ => absurd k_ hc0, fun _ => rfl⟩ (Below.refl _ _)
            refine RunAll.cons (cndF (decide (t_1138 = x1.xs)) true (isRep (.sl .bool) (Kx K w.heap.size [some b_213, some b_44, some b_1]) t_206.1.2.2.2)) [(cndF (decide (t_1138 = x1.xs)) true (eqv (.pointer (some ((⟨b_213, 0, .none⟩ : Addr).add (coff (.pair (.int .u8) (.pair (.int .u8) (.pair (.int .u8) (.sl .bool)))) 3))))), 165), (eqv (.bool (decide (t_1138 = x1.xs))), 164)] rfl rfl ?_ ?_
            · intro W_ hW
              by_cases hc0 : (decide (t_1138 = x1.xs)) = true
              · have hl0 : (decide (t_1138 = x1.xs)) = true := hc0
                have S1 := S
                intro v_1179 hF_1180
                replace hF_1180 := cndF.pos hF_1180 hc0
                revert hF_1180
                revert v_1179
                intro v_1182 hF_1181; obtain rfl : .pointer (some ((⟨b_213, 0, .none⟩ : Addr).add (coff (.pair (.int .u8) (.pair (.int .u8) (.pair (.int .u8) (.sl .bool)))) 3))) = v_1182 := Eq.symm hF_1181
                replace S1 := S1.put (by decide : 165 < 176) (.pointer (some ((⟨b_213, 0, .none⟩ : Addr).add (coff (.pair (.int .u8) (.pair (.int .u8) (.pair (.int .u8) (.sl .bool)))) 3))))
                intro v_1184 hF_1183; obtain rfl : .bool (decide (t_1138 = x1.xs)) = v_1184 := Eq.symm hF_1183
                replace S1 := S1.put (by decide : 164 < 176) (.bool (decide (t_1138 = x1.xs)))
                refine fill_nil S1 ?_; clear S1; intro a_ S1
                replace B_214 := B_214.step hW
                rw [show (decide (t_1138 = x1.xs)) = true from hl0] at S1
                have S0 := S.defers; replace S := S1; clear S1
                obtain ⟨ex_1148, _⟩ := (HG_1144).1 hc0
                refine w_go S rfl (op_load (t := (.sl .bool)) (x := t_206.1.2.2.2) S rfl ty64 rfl rfl rfl (RepAt.add 3 (RepAt.st B_214.at_)) ?_)
                clear S; intro a v_1185 R_1186 S
                refine wpList_nil ?_
                exact RPost.mk_ S rfl S0 ⟨fun _ => R_1186, fun k_ => absurd hc0 k_⟩ (Below.refl _ _)
              · have hl0 : (decide (t_1138 = x1.xs)) = false := Bool.eq_false_iff.2 hc0
                have S1 := S
                intro v_1187 hF_1188
                obtain rfl := cndF.neg hF_1188 hc0
                replace S1 := S1.put (by decide : 165 < 176) (undef)
                intro v_1190 hF_1189; obtain rfl : .bool (decide (t_1138 = x1.xs)) = v_1190 := Eq.symm hF_1189
                replace S1 := S1.put (by decide : 164 < 176) (.bool (decide (t_1138 = x1.xs)))
                refine fill_nil S1 ?_; clear S1; intro a_ S1
                rw [show (decide (t_1138 = x1.xs)) = false from hl0] at S1
                have S0 := S.defers; replace S := S1; clear S1
                refine wl_pure (l' := [(166, undef), (164, .bool false), (165, undef), (9, .pointer (some (⟨b_213, 0, .none⟩ : Addr))), (1, v1)]) S tys tys_ok 1 (by kernel_rfl) ?_; clear S; intro a S
                refine wpList_nil ?_
                exact RPost.mk_ S rfl S0 ⟨fun k_ => absurd k_ hc0, fun _ => rfl⟩ (Below.refl _ _)
            refine RunAll.cons (cndF (decide (t_1138 = x1.xs)) true (isI .i64 x_1148)) [(cndF (decide (t_1138 = x1.xs)) true (isRep (.sl .bool) (Kx K w.heap.size [some b_213, some b_44, some b_1]) t_206.1.2.2.2), 166), (eqv (.bool (decide (t_1138 = x1.xs))), 164)] rfl rfl ?_ ?_
            · intro W_ hW
              by_cases hc0 : (decide (t_1138 = x1.xs)) = true
              · have hl0 : (decide (t_1138 = x1.xs)) = true := hc0
                have S1 := S
                intro v_1191 hF_1192
                replace hF_1192 := cndF.pos hF_1192 hc0
                revert hF_1192
                revert v_1191
                intro v_1194 hF_1193; replace hF_1193 : RepV _ _ _ _ _ := hF_1193
                replace S1 := S1.put (by decide : 166 < 176) (v_1194)
                intro v_1196 hF_1195; obtain rfl : .bool (decide (t_1138 = x1.xs)) = v_1196 := Eq.symm hF_1195
                replace S1 := S1.put (by decide : 164 < 176) (.bool (decide (t_1138 = x1.xs)))
                refine fill_nil S1 ?_; clear S1; intro a_ S1
                replace W := W.step hW
                rw [show (decide (t_1138 = x1.xs)) = true from hl0] at S1
                have S0 := S.defers; replace S := S1; clear S1
                obtain ⟨ex_1148, _⟩ := (HG_1144).1 hc0
                refine w_go S rfl (op_cap (K := _) S rfl ty64 rfl rfl rfl hF_1193 ex_1148 ?_)
                clear S; intro a G_1197 S
                refine wpList_nil ?_
                exact RPost.mk_ S rfl S0 ⟨fun _ => ⟨rfl, G_1197⟩, fun k_ => absurd hc0 k_⟩ (Below.refl _ _)
              · have hl0 : (decide (t_1138 = x1.xs)) = false := Bool.eq_false_iff.2 hc0
                have S1 := S
                intro v_1198 hF_1199
                obtain rfl := cndF.neg hF_1199 hc0
                replace S1 := S1.put (by decide : 166 < 176) (undef)
                intro v_1201 hF_1200; obtain rfl : .bool (decide (t_1138 = x1.xs)) = v_1201 := Eq.symm hF_1200
                replace S1 := S1.put (by decide : 164 < 176) (.bool (decide (t_1138 = x1.xs)))
                refine fill_nil S1 ?_; clear S1; intro a_ S1
                rw [show (decide (t_1138 = x1.xs)) = false from hl0] at S1
                have S0 := S.defers; replace S := S1; clear S1
                refine wl_pure (l' := [(167, undef), (164, .bool false), (166, undef), (9, .pointer (some (⟨b_213, 0, .none⟩ : Addr))), (1, v1)]) S tys tys_ok 1 (by kernel_rfl) ?_; clear S; intro a S
                refine wpList_nil ?_
                exact RPost.mk_ S rfl S0 ⟨fun k_ => absurd k_ hc0, fun _ => rfl⟩ (Below.refl _ _)
            refine RunAll.cons (cndF (decide (t_1138 = x1.xs)) true (eqv (.pointer (some ((⟨b_213, 0, .none⟩ : Addr).add (coff (.pair (.int .u8) (.pair (.int .u8) (.pair (.int .u8) (.sl .bool)))) 3)))))) [(eqv (.bool (decide (t_1138 = x1.xs))), 164)] rfl rfl ?_ ?_
            · intro W_ hW
              by_cases hc0 : (decide (t_1138 = x1.xs)) = true
              · have hl0 : (decide (t_1138 = x1.xs)) = true := hc0
                have S1 := S
                intro v_1203 hF_1202; obtain rfl : .bool (decide (t_1138 = x1.xs)) = v_1203 := Eq.symm hF_1202
                replace S1 := S1.put (by decide : 164 < 176) (.bool (decide (t_1138 = x1.xs)))
                refine fill_nil S1 ?_; clear S1; intro a_ S1
                replace B_214 := B_214.step hW
                rw [show (decide (t_1138 = x1.xs)) = true from hl0] at S1
                have S0 := S.defers; replace S := S1; clear S1
                refine wl_pure (l' := [(168, .pointer (some ((⟨b_213, 0, .none⟩ : Addr).add (coff (.pair (.int .u8) (.pair (.int .u8) (.pair (.int .u8) (.sl .bool)))) 3)))), (164, .bool true), (9, .pointer (some (⟨b_213, 0, .none⟩ : Addr))), (1, v1)]) S tys tys_ok 1 (by kernel_rfl) ?_; clear S; intro a S
                refine wpList_nil ?_
                exact RPost.mk_ S rfl S0 ⟨fun _ => rfl, fun k_ => absurd hc0 k_⟩ (Below.refl _ _)
              · have hl0 : (decide (t_1138 = x1.xs)) = false := Bool.eq_false_iff.2 hc0
                have S1 := S
                intro v_1205 hF_1204; obtain rfl : .bool (decide (t_1138 = x1.xs)) = v_1205 := Eq.symm hF_1204
                replace S1 := S1.put (by decide : 164 < 176) (.bool (decide (t_1138 = x1.xs)))
                refine fill_nil S1 ?_; clear S1; intro a_ S1
                rw [show (decide (t_1138 = x1.xs)) = false from hl0] at S1
                have S0 := S.defers; replace S := S1; clear S1
                refine wl_pure (l' := [(168, undef), (164, .bool false), (9, .pointer (some (⟨b_213, 0, .none⟩ : Addr))), (1, v1)]) S tys tys_ok 1 (by kernel_rfl) ?_; clear S; intro a S
                refine wpList_nil ?_
                exact RPost.mk_ S rfl S0 ⟨fun k_ => absurd k_ hc0, fun _ => rfl⟩ (Below.refl _ _)
            refine RunAll.cons (cndF (decide (t_1138 = x1.xs)) true (isRep (.sl .bool) (Kx K w.heap.size [some b_213, some b_44, some b_1]) t_206.1.2.2.2)) [(cndF (decide (t_1138 = x1.xs)) true (eqv (.pointer (some ((⟨b_213, 0, .none⟩ : Addr).add (coff (.pair (.int .u8) (.pair (.int .u8) (.pair (.int .u8) (.sl .bool)))) 3))))), 168), (eqv (.bool (decide (t_1138 = x1.xs))), 164)] rfl rfl ?_ ?_
            · intro W_ hW
              by_cases hc0 : (decide (t_1138 = x1.xs)) = true
              · have hl0 : (decide (t_1138 = x1.xs)) = true := hc0
                have S1 := S
                intro v_1206 hF_1207
                replace hF_1207 := cndF.pos hF_1207 hc0
                revert hF_1207
                revert v_1206
                intro v_1209 hF_1208; obtain rfl : .pointer (some ((⟨b_213, 0, .none⟩ : Addr).add (coff (.pair (.int .u8) (.pair (.int .u8) (.pair (.int .u8) (.sl .bool)))) 3))) = v_1209 := Eq.symm hF_1208
                replace S1 := S1.put (by decide : 168 < 176) (.pointer (some ((⟨b_213, 0, .none⟩ : Addr).add (coff (.pair (.int .u8) (.pair (.int .u8) (.pair (.int .u8) (.sl .bool)))) 3))))
                intro v_1211 hF_1210; obtain rfl : .bool (decide (t_1138 = x1.xs)) = v_1211 := Eq.symm hF_1210
                replace S1 := S1.put (by decide : 164 < 176) (.bool (decide (t_1138 = x1.xs)))
                refine fill_nil S1 ?_; clear S1; intro a_ S1
                replace B_214 := B_214.step hW
                rw [show (decide (t_1138 = x1.xs)) = true from hl0] at S1
                have S0 := S.defers; replace S := S1; clear S1
                obtain ⟨ex_1148, _⟩ := (HG_1144).1 hc0
                refine w_go S rfl (op_load (t := (.sl .bool)) (x := t_206.1.2.2.2) S rfl ty64 rfl rfl rfl (RepAt.add 3 (RepAt.st B_214.at_)) ?_)
                clear S; intro a v_1212 R_1213 S
                refine wpList_nil ?_
                exact RPost.mk_ S rfl S0 ⟨fun _ => R_1213, fun k_ => absurd hc0 k_⟩ (Below.refl _ _)
              · have hl0 : (decide (t_1138 = x1.xs)) = false := Bool.eq_false_iff.2 hc0
                have S1 := S
                intro v_1214 hF_1215
                obtain rfl := cndF.neg hF_1215 hc0
                replace S1 := S1.put (by decide : 168 < 176) (undef)
                intro v_1217 hF_1216; obtain rfl : .bool (decide (t_1138 = x1.xs)) = v_1217 := Eq.symm hF_1216
                replace S1 := S1.put (by decide : 164 < 176) (.bool (decide (t_1138 = x1.xs)))
                refine fill_nil S1 ?_; clear S1; intro a_ S1
                rw [show (decide (t_1138 = x1.xs)) = false from hl0] at S1
                have S0 := S.defers; replace S := S1; clear S1
                refine wl_pure (l' := [(169, undef), (164, .bool false), (168, undef), (9, .pointer (some (⟨b_213, 0, .none⟩ : Addr))), (1, v1)]) S tys tys_ok 1 (by kernel_rfl) ?_; clear S; intro a S
                refine wpList_nil ?_
                exact RPost.mk_ S rfl S0 ⟨fun k_ => absurd k_ hc0, fun _ => rfl⟩ (Below.refl _ _)
            refine RunAll.cons (cndF (decide (t_1138 = x1.xs)) true (isI .i64 (lenI t_206.1.2.2.2))) [(cndF (decide (t_1138 = x1.xs)) true (isRep (.sl .bool) (Kx K w.heap.size [some b_213, some b_44, some b_1]) t_206.1.2.2.2), 169), (eqv (.bool (decide (t_1138 = x1.xs))), 164)] rfl rfl ?_ ?_
            · intro W_ hW
              by_cases hc0 : (decide (t_1138 = x1.xs)) = true
              · have hl0 : (decide (t_1138 = x1.xs)) = true := hc0
                have S1 := S
                intro v_1218 hF_1219
                replace hF_1219 := cndF.pos hF_1219 hc0
                revert hF_1219
                revert v_1218
                intro v_1221 hF_1220; replace hF_1220 : RepV _ _ _ _ _ := hF_1220
                replace S1 := S1.put (by decide : 169 < 176) (v_1221)
                intro v_1223 hF_1222; obtain rfl : .bool (decide (t_1138 = x1.xs)) = v_1223 := Eq.symm hF_1222
                replace S1 := S1.put (by decide : 164 < 176) (.bool (decide (t_1138 = x1.xs)))
                refine fill_nil S1 ?_; clear S1; intro a_ S1
                replace W := W.step hW
                rw [show (decide (t_1138 = x1.xs)) = true from hl0] at S1
                have S0 := S.defers; replace S := S1; clear S1
                obtain ⟨ex_1148, _⟩ := (HG_1144).1 hc0
                refine w_go S rfl (op_len (K := _) S rfl ty64 rfl rfl rfl hF_1220 ?_)
                clear S; intro a G_1224 S
                refine wpList_nil ?_
                exact RPost.mk_ S rfl S0 ⟨fun _ => ⟨rfl, G_1224⟩, fun k_ => absurd hc0 k_⟩ (Below.refl _ _)
              · have hl0 : (decide (t_1138 = x1.xs)) = false := Bool.eq_false_iff.2 hc0
                have S1 := S
                intro v_1225 hF_1226
                obtain rfl := cndF.neg hF_1226 hc0
                replace S1 := S1.put (by decide : 169 < 176) (undef)
                intro v_1228 hF_1227; obtain rfl : .bool (decide (t_1138 = x1.xs)) = v_1228 := Eq.symm hF_1227
                replace S1 := S1.put (by decide : 164 < 176) (.bool (decide (t_1138 = x1.xs)))
                refine fill_nil S1 ?_; clear S1; intro a_ S1
                rw [show (decide (t_1138 = x1.xs)) = false from hl0] at S1
                have S0 := S.defers; replace S := S1; clear S1
                refine wl_pure (l' := [(170, undef), (164, .bool false), (169, undef), (9, .pointer (some (⟨b_213, 0, .none⟩ : Addr))), (1, v1)]) S tys tys_ok 1 (by kernel_rfl) ?_; clear S; intro a S
                refine wpList_nil ?_
                exact RPost.mk_ S rfl S0 ⟨fun k_ => absurd k_ hc0, fun _ => rfl⟩ (Below.refl _ _)
            refine RunAll.cons (cndF (decide (t_1138 = x1.xs)) true (eqv (.bool (x_1148 == (lenI t_206.1.2.2.2))))) [(cndF (decide (t_1138 = x1.xs)) true (isI .i64 x_1148), 167), (cndF (decide (t_1138 = x1.xs)) true (isI .i64 (lenI t_206.1.2.2.2)), 170), (eqv (.bool (decide (t_1138 = x1.xs))), 164)] rfl rfl ?_ ?_
            · intro W_ hW
              by_cases hc0 : (decide (t_1138 = x1.xs)) = true
              · have hl0 : (decide (t_1138 = x1.xs)) = true := hc0
                have S1 := S
                intro v_1229 hF_1230
                replace hF_1230 := cndF.pos hF_1230 hc0
                revert hF_1230
                revert v_1229
                rintro _ ⟨rfl, hF_1231⟩
                replace S1 := S1.put (by decide : 167 < 176) (.int .i64 x_1148)
                intro v_1233 hF_1234
                replace hF_1234 := cndF.pos hF_1234 hc0
                revert hF_1234
                revert v_1233
                rintro _ ⟨rfl, hF_1235⟩
                replace S1 := S1.put (by decide : 170 < 176) (.int .i64 (lenI t_206.1.2.2.2))
                intro v_1238 hF_1237; obtain rfl : .bool (decide (t_1138 = x1.xs)) = v_1238 := Eq.symm hF_1237
                replace S1 := S1.put (by decide : 164 < 176) (.bool (decide (t_1138 = x1.xs)))
                refine fill_nil S1 ?_; clear S1; intro a_ S1
                rw [show (decide (t_1138 = x1.xs)) = true from hl0] at S1
                have S0 := S.defers; replace S := S1; clear S1
                refine wl_pure (l' := [(171, .bool (x_1148 == (lenI t_206.1.2.2.2))), (164, .bool true), (170, .int .i64 (lenI t_206.1.2.2.2)), (167, .int .i64 x_1148), (9, .pointer (some (⟨b_213, 0, .none⟩ : Addr))), (1, v1)]) S tys tys_ok 1 (by kernel_rfl) ?_; clear S; intro a S
                refine wpList_nil ?_
                exact RPost.mk_ S rfl S0 ⟨fun _ => rfl, fun k_ => absurd hc0 k_⟩ (Below.refl _ _)
              · have hl0 : (decide (t_1138 = x1.xs)) = false := Bool.eq_false_iff.2 hc0
                have S1 := S
                intro v_1239 hF_1240
                obtain rfl := cndF.neg hF_1240 hc0
                replace S1 := S1.put (by decide : 167 < 176) (undef)
                intro v_1241 hF_1242
                obtain rfl := cndF.neg hF_1242 hc0
                replace S1 := S1.put (by decide : 170 < 176) (undef)
                intro v_1244 hF_1243; obtain rfl : .bool (decide (t_1138 = x1.xs)) = v_1244 := Eq.symm hF_1243
                replace S1 := S1.put (by decide : 164 < 176) (.bool (decide (t_1138 = x1.xs)))
                refine fill_nil S1 ?_; clear S1; intro a_ S1
                rw [show (decide (t_1138 = x1.xs)) = false from hl0] at S1
                have S0 := S.defers; replace S := S1; clear S1
                refine wl_pure (l' := [(171, undef), (164, .bool false), (170, undef), (167, undef), (9, .pointer (some (⟨b_213, 0, .none⟩ : Addr))), (1, v1)]) S tys tys_ok 1 (by kernel_rfl) ?_; clear S; intro a S
                refine wpList_nil ?_
                exact RPost.mk_ S rfl S0 ⟨fun k_ => absurd k_ hc0, fun _ => rfl⟩ (Below.refl _ _)
            refine RunAll.cons (eqv (.bool q_1143)) [(eqv (.bool (decide (t_1138 = x1.xs))), 164), (cndF (decide (t_1138 = x1.xs)) true (eqv (.bool (x_1148 == (lenI t_206.1.2.2.2)))), 171)] rfl rfl ?_ ?_
            · intro W_ hW
              by_cases hc0 : (decide (t_1138 = x1.xs)) = true
              · have hl0 : (decide (t_1138 = x1.xs)) = true := hc0
                have S1 := S
                intro v_1246 hF_1245; obtain rfl : .bool (decide (t_1138 = x1.xs)) = v_1246 := Eq.symm hF_1245
                replace S1 := S1.put (by decide : 164 < 176) (.bool (decide (t_1138 = x1.xs)))
                intro v_1247 hF_1248
                replace hF_1248 := cndF.pos hF_1248 hc0
                revert hF_1248
                revert v_1247
                intro v_1250 hF_1249; obtain rfl : .bool (x_1148 == (lenI t_206.1.2.2.2)) = v_1250 := Eq.symm hF_1249
                replace S1 := S1.put (by decide : 171 < 176) (.bool (x_1148 == (lenI t_206.1.2.2.2)))
                refine fill_nil S1 ?_; clear S1; intro a_ S1
                rw [show (decide (t_1138 = x1.xs)) = true from hl0] at S1
                have S0 := S.defers; replace S := S1; clear S1
                refine wl_pure (l' := [(172, .bool (x_1148 == (lenI t_206.1.2.2.2))), (171, .bool (x_1148 == (lenI t_206.1.2.2.2))), (164, .bool true), (9, .pointer (some (⟨b_213, 0, .none⟩ : Addr))), (1, v1)]) S tys tys_ok 1 (by kernel_rfl) ?_; clear S; intro a S
                refine wpList_nil ?_
                exact RPost.mk_ S rfl S0 (congrArg Value.bool ((HG_1144).1 hc0).2) (Below.refl _ _)
              · have hl0 : (decide (t_1138 = x1.xs)) = false := Bool.eq_false_iff.2 hc0
                have S1 := S
                intro v_1252 hF_1251; obtain rfl : .bool (decide (t_1138 = x1.xs)) = v_1252 := Eq.symm hF_1251
                replace S1 := S1.put (by decide : 164 < 176) (.bool (decide (t_1138 = x1.xs)))
                intro v_1253 hF_1254
                obtain rfl := cndF.neg hF_1254 hc0
                replace S1 := S1.put (by decide : 171 < 176) (undef)
                refine fill_nil S1 ?_; clear S1; intro a_ S1
                rw [show (decide (t_1138 = x1.xs)) = false from hl0] at S1
                have S0 := S.defers; replace S := S1; clear S1
                refine wl_pure (l' := [(172, .bool false), (171, undef), (164, .bool false), (9, .pointer (some (⟨b_213, 0, .none⟩ : Addr))), (1, v1)]) S tys tys_ok 1 (by kernel_rfl) ?_; clear S; intro a S
                refine wpList_nil ?_
                exact RPost.mk_ S rfl S0 (congrArg Value.bool ((HG_1144).2 hc0)) (Below.refl _ _)
            refine RunAll.cons (eqv (.bool q_1143)) [(eqv (.bool q_1143), 172)] rfl rfl ?_ ?_
            · intro W_ hW
              have S1 := S
              intro v_1256 hF_1255; obtain rfl : .bool q_1143 = v_1256 := Eq.symm hF_1255
              replace S1 := S1.put (by decide : 172 < 176) (.bool q_1143)
              refine fill_nil S1 ?_; clear S1; intro a_ S1
              have S0 := S.defers; replace S := S1; clear S1
              refine wl_pure (l' := [(173, .bool q_1143), (172, .bool q_1143), (9, .pointer (some (⟨b_213, 0, .none⟩ : Addr))), (1, v1)]) S tys tys_ok 1 (by kernel_rfl) ?_; clear S; intro a S
              refine wpList_nil ?_
              exact RPost.mk_ S rfl S0 rfl (Below.refl _ _)
            refine RunAll.cons (cndF q_1143 true (eqv (.bool t_1154))) [(eqv (.bool q_1143), 173)] rfl rfl ?_ ?_
            · intro W_ hW
              by_cases hc1 : q_1143 = true
              · have hl1 : q_1143 = true := hc1
                have S1 := S
                intro v_1258 hF_1257; obtain rfl : .bool q_1143 = v_1258 := Eq.symm hF_1257
                replace S1 := S1.put (by decide : 173 < 176) (.bool q_1143)
                refine fill_nil S1 ?_; clear S1; intro a_ S1
                replace W := W.step hW
                rw [show q_1143 = true from hl1] at S1
                have S0 := S.defers; replace S := S1; clear S1
                obtain ⟨et_1154, _⟩ := (HG_1153).1 hc1
                refine w_go S rfl (op_call (vs := []) S rfl cb11 rfl rfl rfl (c11 (Kx K w.heap.size [some b_213, some b_44, some b_1]) n W_  et_1154) ?_)
                rintro _ w_1262 ⟨v_1259, rfl, R_1260, hb_1261⟩; refine ⟨_, rfl, ?_⟩
                replace R_1260 := RepV.back R_1260 W
                clear S; intro a S
                obtain rfl := RepV.bool R_1260
                refine wpList_nil ?_
                exact RPost.mk_ S rfl S0 ⟨fun _ => rfl, fun k_ => absurd hc1 k_⟩ (hb_1261)
              · have hl1 : q_1143 = false := Bool.eq_false_iff.2 hc1
                have S1 := S
                intro v_1264 hF_1263; obtain rfl : .bool q_1143 = v_1264 := Eq.symm hF_1263
                replace S1 := S1.put (by decide : 173 < 176) (.bool q_1143)
                refine fill_nil S1 ?_; clear S1; intro a_ S1
                rw [show q_1143 = false from hl1] at S1
                have S0 := S.defers; replace S := S1; clear S1
                refine wl_pure (l' := [(174, undef), (173, .bool false), (9, .pointer (some (⟨b_213, 0, .none⟩ : Addr))), (1, v1)]) S tys tys_ok 1 (by kernel_rfl) ?_; clear S; intro a S
                refine wpList_nil ?_
                exact RPost.mk_ S rfl S0 ⟨fun k_ => absurd k_ hc1, fun _ => rfl⟩ (Below.refl _ _)
            refine RunAll.cons (eqv (.bool q_1152)) [(eqv (.bool q_1143), 173), (cndF q_1143 true (eqv (.bool t_1154)), 174)] rfl rfl ?_ ?_
            · intro W_ hW
              by_cases hc1 : q_1143 = true
              · have hl1 : q_1143 = true := hc1
                have S1 := S
                intro v_1266 hF_1265; obtain rfl : .bool q_1143 = v_1266 := Eq.symm hF_1265
                replace S1 := S1.put (by decide : 173 < 176) (.bool q_1143)
                intro v_1267 hF_1268
                replace hF_1268 := cndF.pos hF_1268 hc1
                revert hF_1268
                revert v_1267
                intro v_1270 hF_1269; obtain rfl : .bool t_1154 = v_1270 := Eq.symm hF_1269
                replace S1 := S1.put (by decide : 174 < 176) (.bool t_1154)
                refine fill_nil S1 ?_; clear S1; intro a_ S1
                rw [show q_1143 = true from hl1] at S1
                have S0 := S.defers; replace S := S1; clear S1
                refine wl_pure (l' := [(175, .bool t_1154), (174, .bool t_1154), (173, .bool true), (9, .pointer (some (⟨b_213, 0, .none⟩ : Addr))), (1, v1)]) S tys tys_ok 1 (by kernel_rfl) ?_; clear S; intro a S
                refine wpList_nil ?_
                exact RPost.mk_ S rfl S0 (congrArg Value.bool ((HG_1153).1 hc1).2) (Below.refl _ _)
              · have hl1 : q_1143 = false := Bool.eq_false_iff.2 hc1
                have S1 := S
                intro v_1272 hF_1271; obtain rfl : .bool q_1143 = v_1272 := Eq.symm hF_1271
                replace S1 := S1.put (by decide : 173 < 176) (.bool q_1143)
                intro v_1273 hF_1274
                obtain rfl := cndF.neg hF_1274 hc1
                replace S1 := S1.put (by decide : 174 < 176) (undef)
                refine fill_nil S1 ?_; clear S1; intro a_ S1
                rw [show q_1143 = false from hl1] at S1
                have S0 := S.defers; replace S := S1; clear S1
                refine wl_pure (l' := [(175, .bool false), (174, undef), (173, .bool false), (9, .pointer (some (⟨b_213, 0, .none⟩ : Addr))), (1, v1)]) S tys tys_ok 1 (by kernel_rfl) ?_; clear S; intro a S
                refine wpList_nil ?_
                exact RPost.mk_ S rfl S0 (congrArg Value.bool ((HG_1153).2 hc1)) (Below.refl _ _)
            refine RunAll.cons (eqv (.bool q_1152)) [(eqv (.bool q_1152), 175)] rfl rfl ?_ ?_
            · intro W_ hW
              have S1 := S
              intro v_1276 hF_1275; obtain rfl : .bool q_1152 = v_1276 := Eq.symm hF_1275
              replace S1 := S1.put (by decide : 175 < 176) (.bool q_1152)
              refine fill_nil S1 ?_; clear S1; intro a_ S1
              have S0 := S.defers; replace S := S1; clear S1
              refine wl_pure (l' := [(4, .bool q_1152), (175, .bool q_1152), (9, .pointer (some (⟨b_213, 0, .none⟩ : Addr))), (1, v1)]) S tys tys_ok 1 (by kernel_rfl) ?_; clear S; intro a S
              refine wpList_nil ?_
              exact RPost.mk_ S rfl S0 rfl (Below.refl _ _)
            exact trivial
          intro w_1277 hb_1278
          refine EndE.some_ rfl ?_
          intro v_1280 hF_1279; replace hF_1279 : RepV _ _ _ _ _ := hF_1279
          replace S := S.put (by decide : 159 < 176) (v_1280)
          refine EndE.some_ rfl ?_
          rintro _ ⟨rfl, hF_1281⟩
          replace S := S.put (by decide : 160 < 176) (.string (strOfNums t_1138))
          refine EndE.some_ rfl ?_
          intro v_1284 hF_1283; replace hF_1283 : RepV _ _ _ _ _ := hF_1283
          replace S := S.put (by decide : 161 < 176) (v_1284)
          refine EndE.some_ rfl ?_
          rintro _ ⟨rfl, hF_1285⟩
          replace S := S.put (by decide : 162 < 176) (.string (strOfNums x1.xs))
          refine EndE.some_ rfl ?_
          intro v_1288 hF_1287; obtain rfl : .bool (decide (t_1138 = x1.xs)) = v_1288 := Eq.symm hF_1287
          replace S := S.put (by decide : 163 < 176) (.bool (decide (t_1138 = x1.xs)))
          refine EndE.some_ rfl ?_
          intro v_1290 hF_1289; obtain rfl : .bool (decide (t_1138 = x1.xs)) = v_1290 := Eq.symm hF_1289
          replace S := S.put (by decide : 164 < 176) (.bool (decide (t_1138 = x1.xs)))
          refine EndE.some_ rfl ?_
          intro v_1291 _
          replace S := S.put (by decide : 165 < 176) (v_1291)
          refine EndE.some_ rfl ?_
          intro v_1292 _
          replace S := S.put (by decide : 166 < 176) (v_1292)
          refine EndE.some_ rfl ?_
          intro v_1293 _
          replace S := S.put (by decide : 167 < 176) (v_1293)
          refine EndE.some_ rfl ?_
          intro v_1294 _
          replace S := S.put (by decide : 168 < 176) (v_1294)
          refine EndE.some_ rfl ?_
          intro v_1295 _
          replace S := S.put (by decide : 169 < 176) (v_1295)
          refine EndE.some_ rfl ?_
          intro v_1296 _
          replace S := S.put (by decide : 170 < 176) (v_1296)
          refine EndE.some_ rfl ?_
          intro v_1297 _
          replace S := S.put (by decide : 171 < 176) (v_1297)
          refine EndE.some_ rfl ?_
          intro v_1299 hF_1298; obtain rfl : .bool q_1143 = v_1299 := Eq.symm hF_1298
          replace S := S.put (by decide : 172 < 176) (.bool q_1143)
          refine EndE.some_ rfl ?_
          intro v_1301 hF_1300; obtain rfl : .bool q_1143 = v_1301 := Eq.symm hF_1300
          replace S := S.put (by decide : 173 < 176) (.bool q_1143)
          refine EndE.some_ rfl ?_
          intro v_1302 _
          replace S := S.put (by decide : 174 < 176) (v_1302)
          refine EndE.some_ rfl ?_
          intro v_1304 hF_1303; obtain rfl : .bool q_1152 = v_1304 := Eq.symm hF_1303
          replace S := S.put (by decide : 175 < 176) (.bool q_1152)
          refine EndE.some_ rfl ?_
          intro v_1306 hF_1305; obtain rfl : .bool q_1152 = v_1306 := Eq.symm hF_1305
          replace S := S.put (by decide : 4 < 176) (.bool q_1152)
          refine endE_nil S ?_; clear S; intro a S
          replace R1 := R1.step hb_1278
          replace B_2 := B_2.step hb_1278
          replace B_45 := B_45.step hb_1278
          replace B_214 := B_214.step hb_1278
          replace W := W.step hb_1278
          refine then_n ?_
          replace S := S.sub (l' := [(4, .bool q_1152)]) (by exact ⟨rfl, trivial⟩)
          refine wp_ret ?_
          obtain rfl := Option.some.inj h
          exact b_ret1 S rfl rfl ⟨_, rfl, RepV.mkBool, W.below⟩

end Go.Proofs.Ytojifdijcanbpaa
