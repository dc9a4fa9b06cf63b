/- x. -/
import Derived.Test.YtojifdijcanbpaaQe1
set_option linter.unusedVariables false
set_option linter.unusedSimpArgs false
namespace Go.Proofs.Ytojifdijcanbpaa
open Go.RowKit

def p7 (n : Nat) (x0 : Int × Bool × Int × Int × Int) (x1 : Sl (Int)) : Option ((Bool)) :=
  if (decide ((lenI x1) > 40)) then ((p11 n).bind fun t_6 => some t_6) else (p23 n x0).bind fun t_13 => (p13 n x0).bind fun t_22 => (p19 n t_13.1 t_13.2 t_22).bind fun t_27 => (if (!t_27) = false then (p24 n x0).bind fun t_36 => (p25 n x0).bind fun t_43 => some (t_36 != t_43) else some true).bind fun q_32 => if q_32 then (some false) else (p26 n t_13.1).bind fun t_159 => (if (t_13.2 == 0) = true then (if (!(eqP (.pair (.int .u8) (.pair .bool (.pair (.int .u8) (.pair (.int .u16) (.int .u8))))) t_159.1 x0)) = false then some (t_159.2 != 0) else some true).bind fun q_177 => some q_177 else some false).bind fun q_172 => if q_172 then (some false) else (p26 n x1).bind fun t_178 => if (t_178.2 != 0) then ((p22 n t_178.2 (lenI x1) 7).bind fun t_192 => (if (!t_192) = false then some (!(eqP (.pair (.int .u8) (.pair .bool (.pair (.int .u8) (.pair (.int .u16) (.int .u8))))) t_178.1 (0, false, 0, 0, 0))) else some true).bind fun q_197 => if q_197 then (some false) else (if ((lenI x1) == 7) = true then (idx x1.xs 0).bind fun y_204 => some (y_204 == 7) else some false).bind fun q_203 => (if q_203 = true then (idx x1.xs 1).bind fun y_211 => some (y_211 == 5) else some false).bind fun q_210 => (if q_210 = true then (idx x1.xs 2).bind fun y_218 => (remI .u8 y_218 128).bind fun x_224 => some (decide (x_224 < 16)) else some false).bind fun q_217 => (if q_217 then ((idx x1.xs 2).bind fun y_226 => (remI .u8 y_226 128).bind fun x_232 => (idx x1.xs 2).bind fun y_233 => (idx x1.xs 3).bind fun y_239 => (idx x1.xs 4).bind fun y_245 => (idx x1.xs 5).bind fun y_251 => (idx x1.xs 6).bind fun y_257 => (p13 n (x_232, (decide (y_233 > 127)), y_239, IntKind.wrap .u16 (y_245 + (IntKind.wrap .u16 (256 * y_251))), y_257)).bind fun t_265 => some (!(decide (t_265 = [])))) else some false).bind fun (j_225 : (Bool)) => (if (!j_225) = true then (p11 n).bind fun t_456 => some t_456 else some false).bind fun q_455 => some q_455) else (p13 n t_178.1).bind fun t_464 => (if (decide (t_464 = x1.xs)) = true then (p11 n).bind fun t_471 => some t_471 else some false).bind fun q_469 => some q_469
set_option maxHeartbeats 4000000 in
set_option maxRecDepth 100000 in
/-- plugboard/plugboardlaw13.DescriptorsEndpoint -/
theorem c7 (K : Nat → Prop) (n : Nat) (w : World) (x0 : Int × Bool × Int × Int × Int) (v0 : Value) (R0 : RepV (.st (.pair (.int .u8) (.pair .bool (.pair (.int .u8) (.pair (.int .u16) (.int .u8)))))) w K v0 x0) (x1 : Sl (Int)) (v1 : Value) (R1 : RepV (.sl (.int .u8)) w K v1 x1) {r : (Bool)} (h : p7 n x0 x1 = some r) :
    Calls Try.prog 7 #[v0, v1] w (Ret1 .bool w (Kx K w.heap.size []) r) := by
  refine enter (args := [v0, v1]) Try.func7 rfl 129 rfl rfl fun a S => ?_
  have W := Wd.start w
  replace R0 := R0.arg
  replace R1 := R1.arg
  unfold p7 at h
  replace S : St 129 a [(0, v0), (1, v1)] := S
  refine wp_seq ?_
  refine wp_region_lit ?_
  refine w_go S rfl (op_box S rfl rfl rfl rfl rfl R0 ?_)
  clear S; intro a w_3 b_1 hb_4 B_2 S
  replace R0 := R0.box hb_4
  replace R1 := R1.box hb_4
  replace W := W.box hb_4
  refine wl_pure (l' := [(4, .bool false), (2, .pointer (some (⟨b_1, 0, .none⟩ : Addr))), (0, v0), (1, v1)]) S tys tys_ok 1 (by kernel_rfl) ?_
  clear S; intro a S
  refine wpList_nil ?_
  refine then_n ?_
  replace S := S.sub (l' := [(2, .pointer (some (⟨b_1, 0, .none⟩ : Addr))), (1, v1)]) (by exact ⟨rfl, rfl, trivial⟩)
  refine wp_seq ?_
  refine wp_seq ?_
  refine wp_region_lit ?_
  refine wl_pure (l' := [(12, v1), (2, .pointer (some (⟨b_1, 0, .none⟩ : Addr))), (1, v1)]) S tys tys_ok 1 (by kernel_rfl) ?_
  clear S; intro a S
  refine w_go S rfl (op_len (K := _) S rfl ty23 rfl rfl rfl R1 ?_)
  clear S; intro a G_5 S
  refine wl_pure (l' := [(14, .bool (decide ((lenI x1) > 40))), (13, .int .i64 (lenI x1)), (12, v1), (2, .pointer (some (⟨b_1, 0, .none⟩ : Addr))), (1, v1)]) S tys tys_ok 1 (by kernel_rfl) ?_
  clear S; intro a S
  refine wpList_nil ?_
  refine then_n ?_
  replace S := S.sub (l' := [(14, .bool (decide ((lenI x1) > 40))), (2, .pointer (some (⟨b_1, 0, .none⟩ : Addr))), (1, v1)]) (by exact ⟨rfl, rfl, rfl, trivial⟩)
  refine wp_cond_split (S.eval (show ev _ _ = some (.bool (decide ((lenI x1) > 40))) from rfl)) ?_ ?_
  · intro hc
    rw [if_pos hc] at h
    refine wp_seq ?_
    refine wp_region_lit ?_
    obtain ⟨t_6, et_6, h⟩ := bindS h
    refine w_go S rfl (op_call (vs := []) S rfl cb11 rfl rfl rfl (c11 (Kx K w.heap.size [some b_1]) n w_3  et_6) ?_)
    rintro _ w_10 ⟨v_7, rfl, R_8, hb_9⟩; refine ⟨_, rfl, ?_⟩
    replace R_8 := RepV.back R_8 W
    clear S; intro a S
    replace R1 := R1.step hb_9
    replace B_2 := B_2.step hb_9
    replace W := W.step hb_9
    obtain rfl := RepV.bool R_8
    refine wl_pure (l' := [(4, .bool t_6), (15, .bool t_6), (14, .bool (decide ((lenI x1) > 40))), (2, .pointer (some (⟨b_1, 0, .none⟩ : Addr))), (1, v1)]) S tys tys_ok 1 (by kernel_rfl) ?_
    clear S; intro a S
    refine wpList_nil ?_
    refine then_n ?_
    replace S := S.sub (l' := [(4, .bool t_6)]) (by exact ⟨rfl, trivial⟩)
    refine wp_ret ?_
    refine then_r ?_
    obtain rfl := Option.some.inj h
    exact b_ret1 S rfl rfl ⟨_, rfl, RepV.mkBool, W.below⟩
  · intro hc
    rw [if_neg (Bool.eq_false_iff.1 hc)] at h
    refine wp_skip ?_
    refine then_n ?_
    replace S := S.sub (l' := [(2, .pointer (some (⟨b_1, 0, .none⟩ : Addr))), (1, v1)]) (by exact ⟨rfl, rfl, trivial⟩)
    refine wp_seq ?_
    refine wp_region_lit ?_
    refine w_go S rfl (op_load (t := (.st (.pair (.int .u8) (.pair .bool (.pair (.int .u8) (.pair (.int .u16) (.int .u8))))))) (x := x0) S rfl ty35 rfl rfl rfl B_2.at_ ?_)
    clear S; intro a v_11 R_12 S
    obtain ⟨t_13, et_13, h⟩ := bindS h
    refine w_go S rfl (op_call (vs := [v_11]) S rfl cb23 rfl rfl rfl (c23 (Kx K w.heap.size [some b_1]) n w_3 x0 _ R_12 et_13) ?_)
    rintro _ w_19 ⟨v_14, v_15, rfl, R_16, R_17, hb_18⟩; refine ⟨_, rfl, ?_⟩
    replace R_16 := RepV.back R_16 W
    replace R_17 := RepV.back R_17 W
    clear S; intro a S
    replace R1 := R1.step hb_18
    replace R_12 := R_12.step hb_18
    replace B_2 := B_2.step hb_18
    replace W := W.step hb_18
    obtain ⟨rfl, GR_17⟩ := RepV.int R_17
    refine wl_pure (l' := [(6, .int .i64 t_13.2), (5, v_14), (20, .int .i64 t_13.2), (19, v_14), (16, .tuple #[v_14, .int .i64 t_13.2]), (18, .tuple #[v_14, .int .i64 t_13.2]), (17, v_11), (2, .pointer (some (⟨b_1, 0, .none⟩ : Addr))), (1, v1)]) S tys tys_ok 5 (by kernel_rfl) ?_
    clear S; intro a S
    refine wpList_nil ?_
    refine then_n ?_
    replace S := S.sub (l' := [(6, .int .i64 t_13.2), (5, v_14), (2, .pointer (some (⟨b_1, 0, .none⟩ : Addr))), (1, v1)]) (by exact ⟨rfl, rfl, rfl, rfl, trivial⟩)
    refine wp_seq ?_
    refine wp_seq ?_
    obtain ⟨t_22, et_22, h⟩ := bindS h
    obtain ⟨t_27, et_27, h⟩ := bindS h
    obtain ⟨q_32, eq_32, h⟩ := bindS h
    obtain ⟨t_36, t_43, HG_33⟩ : ∃ (t_36 : (Int)) (t_43 : (Int)) , ((!t_27) = false → (p24 n x0) = some t_36 ∧ (p25 n x0) = some t_43 ∧ (t_36 != t_43) = q_32) ∧ (¬ (!t_27) = false → true = q_32) := by
      by_cases hc : (!t_27) = false
      · rw [if_pos hc] at eq_32
        obtain ⟨t_36, et_36, eq_32⟩ := bindS eq_32
        obtain ⟨t_43, et_43, eq_32⟩ := bindS eq_32
        exact ⟨t_36, t_43, ⟨fun _ => ⟨et_36, et_43, Option.some.inj eq_32⟩, fun k_ => absurd hc k_⟩⟩
      · rw [if_neg hc] at eq_32
        exact ⟨default, default, ⟨fun k_ => absurd k_ hc, fun _ => Option.some.inj eq_32⟩⟩
    have hR : Rel (Kx K w.heap.size [some b_1]) Bl := Bl.rel _
    refine wp_region_all hR [isRep (.sl (.int .u8)) (Kx K w.heap.size [some b_1]) t_13.1, isI .i64 t_13.2, isRep (.st (.pair (.int .u8) (.pair .bool (.pair (.int .u8) (.pair (.int .u16) (.int .u8)))))) (Kx K w.heap.size [some b_1]) x0, isS t_22, eqv (.bool t_27), eqv (.bool (!t_27)), eqv (.bool (!t_27)), cndF (!t_27) false (isRep (.st (.pair (.int .u8) (.pair .bool (.pair (.int .u8) (.pair (.int .u16) (.int .u8)))))) (Kx K w.heap.size [some b_1]) x0), cndF (!t_27) false (isI .u8 t_36), cndF (!t_27) false (isRep (.st (.pair (.int .u8) (.pair .bool (.pair (.int .u8) (.pair (.int .u16) (.int .u8)))))) (Kx K w.heap.size [some b_1]) x0), cndF (!t_27) false (isI .u8 t_43), cndF (!t_27) false (eqv (.bool (t_36 != t_43))), eqv (.bool q_32)] [[], [], [], [(2, 23)], [(0, 21), (1, 22), (3, 24)], [(4, 25)], [(5, 26)], [(6, 27)], [(7, 28), (6, 27)], [(6, 27)], [(9, 30), (6, 27)], [(8, 29), (10, 31), (6, 27)], [(6, 27), (11, 32)]] (by kernel_rfl) (by rw [S.size]; kernel_rfl) (by kernel_rfl) (by kernel_rfl) rfl ⟨(stab_rep hR), stab_I, (stab_rep hR), stab_S, (stab_eqv _), (stab_eqv _), (stab_eqv _), (stab_cnd (stab_rep hR)), (stab_cnd stab_I), (stab_cnd (stab_rep hR)), (stab_cnd stab_I), (stab_cnd (stab_eqv _)), (stab_eqv _), trivial⟩ ?_ ?_
    ·
      refine RunAll.cons (isRep (.sl (.int .u8)) (Kx K w.heap.size [some b_1]) t_13.1) [] rfl rfl ?_ ?_
      · intro W_ hW
        have S1 := S
        refine fill_nil S1 ?_; clear S1; intro a_ S1
        replace R_16 := R_16.step hW
        have S0 := S.defers; replace S := S1; clear S1
        refine wl_pure (l' := [(21, v_14), (6, .int .i64 t_13.2), (5, v_14), (2, .pointer (some (⟨b_1, 0, .none⟩ : Addr))), (1, v1)]) S tys tys_ok 1 (by kernel_rfl) ?_; clear S; intro a S
        refine wpList_nil ?_
        exact RPost.mk_ S rfl S0 R_16 (Below.refl _ _)
      refine RunAll.cons (isI .i64 t_13.2) [] rfl rfl ?_ ?_
      · intro W_ hW
        have S1 := S
        refine fill_nil S1 ?_; clear S1; intro a_ S1
        have S0 := S.defers; replace S := S1; clear S1
        refine wl_pure (l' := [(22, .int .i64 t_13.2), (6, .int .i64 t_13.2), (5, v_14), (2, .pointer (some (⟨b_1, 0, .none⟩ : Addr))), (1, v1)]) S tys tys_ok 1 (by kernel_rfl) ?_; clear S; intro a S
        refine wpList_nil ?_
        exact RPost.mk_ S rfl S0 ⟨rfl, GR_17⟩ (Below.refl _ _)
      refine RunAll.cons (isRep (.st (.pair (.int .u8) (.pair .bool (.pair (.int .u8) (.pair (.int .u16) (.int .u8)))))) (Kx K w.heap.size [some b_1]) x0) [] rfl rfl ?_ ?_
      · intro W_ hW
        have S1 := S
        refine fill_nil S1 ?_; clear S1; intro a_ S1
        replace B_2 := B_2.step hW
        have S0 := S.defers; replace S := S1; clear S1
        refine w_go S rfl (op_load (t := (.st (.pair (.int .u8) (.pair .bool (.pair (.int .u8) (.pair (.int .u16) (.int .u8))))))) (x := x0) S rfl ty35 rfl rfl rfl B_2.at_ ?_)
        clear S; intro a v_48 R_49 S
        refine wpList_nil ?_
        exact RPost.mk_ S rfl S0 R_49 (Below.refl _ _)
      refine RunAll.cons (isS t_22) [(isRep (.st (.pair (.int .u8) (.pair .bool (.pair (.int .u8) (.pair (.int .u16) (.int .u8)))))) (Kx K w.heap.size [some b_1]) x0, 23)] rfl rfl ?_ ?_
      · intro W_ hW
        have S1 := S
        intro v_51 hF_50; replace hF_50 : RepV _ _ _ _ _ := hF_50
        replace S1 := S1.put (by decide : 23 < 129) (v_51)
        refine fill_nil S1 ?_; clear S1; intro a_ S1
        replace W := W.step hW
        have S0 := S.defers; replace S := S1; clear S1
        refine w_go S rfl (op_call (vs := [v_51]) S rfl cb13 rfl rfl rfl (c13 (Kx K w.heap.size [some b_1]) n W_ x0 _ hF_50 et_22) ?_)
        rintro _ w_55 ⟨v_52, rfl, R_53, hb_54⟩; refine ⟨_, rfl, ?_⟩
        replace R_53 := RepV.back R_53 W
        clear S; intro a S
        obtain ⟨rfl, GR_53⟩ := RepV.str R_53
        refine wpList_nil ?_
        exact RPost.mk_ S rfl S0 ⟨rfl, GR_53⟩ (hb_54)
      refine RunAll.cons (eqv (.bool t_27)) [(isRep (.sl (.int .u8)) (Kx K w.heap.size [some b_1]) t_13.1, 21), (isI .i64 t_13.2, 22), (isS t_22, 24)] rfl rfl ?_ ?_
      · intro W_ hW
        have S1 := S
        intro v_57 hF_56; replace hF_56 : RepV _ _ _ _ _ := hF_56
        replace S1 := S1.put (by decide : 21 < 129) (v_57)
        rintro _ ⟨rfl, hF_58⟩
        replace S1 := S1.put (by decide : 22 < 129) (.int .i64 t_13.2)
        rintro _ ⟨rfl, hF_60⟩
        replace S1 := S1.put (by decide : 24 < 129) (.string (strOfNums t_22))
        refine fill_nil S1 ?_; clear S1; intro a_ S1
        replace W := W.step hW
        have S0 := S.defers; replace S := S1; clear S1
        refine w_go S rfl (op_call (vs := [v_57, .int .i64 t_13.2, .string (strOfNums t_22)]) S rfl cb19 rfl rfl rfl (c19 (Kx K w.heap.size [some b_1]) n W_ t_13.1 _ hF_56 t_13.2 hF_58 t_22 hF_60 et_27) ?_)
        rintro _ w_65 ⟨v_62, rfl, R_63, hb_64⟩; refine ⟨_, rfl, ?_⟩
        replace R_63 := RepV.back R_63 W
        clear S; intro a S
        obtain rfl := RepV.bool R_63
        refine wpList_nil ?_
        exact RPost.mk_ S rfl S0 rfl (hb_64)
      refine RunAll.cons (eqv (.bool (!t_27))) [(eqv (.bool t_27), 25)] rfl rfl ?_ ?_
      · intro W_ hW
        have S1 := S
        intro v_67 hF_66; obtain rfl : v_67 = .bool t_27 := hF_66
        replace S1 := S1.put (by decide : 25 < 129) (.bool t_27)
        refine fill_nil S1 ?_; clear S1; intro a_ S1
        have S0 := S.defers; replace S := S1; clear S1
        refine wl_pure (l' := [(26, .bool (!t_27)), (25, .bool t_27), (6, .int .i64 t_13.2), (5, v_14), (2, .pointer (some (⟨b_1, 0, .none⟩ : Addr))), (1, v1)]) S tys tys_ok 1 (by kernel_rfl) ?_; clear S; intro a S
        refine wpList_nil ?_
        exact RPost.mk_ S rfl S0 rfl (Below.refl _ _)
      refine RunAll.cons (eqv (.bool (!t_27))) [(eqv (.bool (!t_27)), 26)] rfl rfl ?_ ?_
      · intro W_ hW
        have S1 := S
        intro v_69 hF_68; obtain rfl : v_69 = .bool (!t_27) := hF_68
        replace S1 := S1.put (by decide : 26 < 129) (.bool (!t_27))
        refine fill_nil S1 ?_; clear S1; intro a_ S1
        have S0 := S.defers; replace S := S1; clear S1
        refine wl_pure (l' := [(27, .bool (!t_27)), (26, .bool (!t_27)), (6, .int .i64 t_13.2), (5, v_14), (2, .pointer (some (⟨b_1, 0, .none⟩ : Addr))), (1, v1)]) S tys tys_ok 1 (by kernel_rfl) ?_; clear S; intro a S
        refine wpList_nil ?_
        exact RPost.mk_ S rfl S0 rfl (Below.refl _ _)
      refine RunAll.cons (cndF (!t_27) false (isRep (.st (.pair (.int .u8) (.pair .bool (.pair (.int .u8) (.pair (.int .u16) (.int .u8)))))) (Kx K w.heap.size [some b_1]) x0)) [(eqv (.bool (!t_27)), 27)] rfl rfl ?_ ?_
      · intro W_ hW
        by_cases hc0 : (!t_27) = false
        · have hl0 : (!t_27) = false := hc0
          have S1 := S
          intro v_71 hF_70; obtain rfl : v_71 = .bool (!t_27) := hF_70
          replace S1 := S1.put (by decide : 27 < 129) (.bool (!t_27))
          refine fill_nil S1 ?_; clear S1; intro a_ S1
          replace B_2 := B_2.step hW
          rw [show (!t_27) = false from hl0] at S1
          have S0 := S.defers; replace S := S1; clear S1
          obtain ⟨et_36, et_43, _⟩ := (HG_33).1 hc0
          refine w_go S rfl (op_load (t := (.st (.pair (.int .u8) (.pair .bool (.pair (.int .u8) (.pair (.int .u16) (.int .u8))))))) (x := x0) S rfl ty35 rfl rfl rfl B_2.at_ ?_)
          clear S; intro a v_72 R_73 S
          refine wpList_nil ?_
          exact RPost.mk_ S rfl S0 ⟨fun _ => R_73, fun k_ => absurd hc0 k_⟩ (Below.refl _ _)
        · have hl0 : (!t_27) = true := (by simpa using hc0)
          have S1 := S
          intro v_75 hF_74; obtain rfl : v_75 = .bool (!t_27) := hF_74
          replace S1 := S1.put (by decide : 27 < 129) (.bool (!t_27))
          refine fill_nil S1 ?_; clear S1; intro a_ S1
          rw [show (!t_27) = true from hl0] at S1
          have S0 := S.defers; replace S := S1; clear S1
          refine wl_pure (l' := [(28, undef), (27, .bool true), (6, .int .i64 t_13.2), (5, v_14), (2, .pointer (some (⟨b_1, 0, .none⟩ : Addr))), (1, v1)]) S tys tys_ok 1 (by kernel_rfl) ?_; clear S; intro a S
          refine wpList_nil ?_
          exact RPost.mk_ S rfl S0 ⟨fun k_ => absurd k_ hc0, fun _ => rfl⟩ (Below.refl _ _)
      refine RunAll.cons (cndF (!t_27) false (isI .u8 t_36)) [(cndF (!t_27) false (isRep (.st (.pair (.int .u8) (.pair .bool (.pair (.int .u8) (.pair (.int .u16) (.int .u8)))))) (Kx K w.heap.size [some b_1]) x0), 28), (eqv (.bool (!t_27)), 27)] rfl rfl ?_ ?_
      · intro W_ hW
        by_cases hc0 : (!t_27) = false
        · have hl0 : (!t_27) = false := hc0
          have S1 := S
          intro v_76 hF_77
          replace hF_77 := cndF.pos hF_77 hc0
          revert hF_77
          revert v_76
          intro v_79 hF_78; replace hF_78 : RepV _ _ _ _ _ := hF_78
          replace S1 := S1.put (by decide : 28 < 129) (v_79)
          intro v_81 hF_80; obtain rfl : v_81 = .bool (!t_27) := hF_80
          replace S1 := S1.put (by decide : 27 < 129) (.bool (!t_27))
          refine fill_nil S1 ?_; clear S1; intro a_ S1
          replace W := W.step hW
          rw [show (!t_27) = false from hl0] at S1
          have S0 := S.defers; replace S := S1; clear S1
          obtain ⟨et_36, et_43, _⟩ := (HG_33).1 hc0
          refine w_go S rfl (op_call (vs := [v_79]) S rfl cb24 rfl rfl rfl (c24 (Kx K w.heap.size [some b_1]) n W_ x0 _ hF_78 et_36) ?_)
          rintro _ w_85 ⟨v_82, rfl, R_83, hb_84⟩; refine ⟨_, rfl, ?_⟩
          replace R_83 := RepV.back R_83 W
          clear S; intro a S
          obtain ⟨rfl, GR_83⟩ := RepV.int R_83
          refine wpList_nil ?_
          exact RPost.mk_ S rfl S0 ⟨fun _ => ⟨rfl, GR_83⟩, fun k_ => absurd hc0 k_⟩ (hb_84)
        · have hl0 : (!t_27) = true := (by simpa using hc0)
          have S1 := S
          intro v_86 hF_87
          obtain rfl := cndF.neg hF_87 hc0
          replace S1 := S1.put (by decide : 28 < 129) (undef)
          intro v_89 hF_88; obtain rfl : v_89 = .bool (!t_27) := hF_88
          replace S1 := S1.put (by decide : 27 < 129) (.bool (!t_27))
          refine fill_nil S1 ?_; clear S1; intro a_ S1
          rw [show (!t_27) = true from hl0] at S1
          have S0 := S.defers; replace S := S1; clear S1
          refine wl_pure (l' := [(29, undef), (27, .bool true), (28, undef), (6, .int .i64 t_13.2), (5, v_14), (2, .pointer (some (⟨b_1, 0, .none⟩ : Addr))), (1, v1)]) S tys tys_ok 1 (by kernel_rfl) ?_; clear S; intro a S
          refine wpList_nil ?_
          exact RPost.mk_ S rfl S0 ⟨fun k_ => absurd k_ hc0, fun _ => rfl⟩ (Below.refl _ _)
      refine RunAll.cons (cndF (!t_27) false (isRep (.st (.pair (.int .u8) (.pair .bool (.pair (.int .u8) (.pair (.int .u16) (.int .u8)))))) (Kx K w.heap.size [some b_1]) x0)) [(eqv (.bool (!t_27)), 27)] rfl rfl ?_ ?_
      · intro W_ hW
        by_cases hc0 : (!t_27) = false
        · have hl0 : (!t_27) = false := hc0
          have S1 := S
          intro v_91 hF_90; obtain rfl : v_91 = .bool (!t_27) := hF_90
          replace S1 := S1.put (by decide : 27 < 129) (.bool (!t_27))
          refine fill_nil S1 ?_; clear S1; intro a_ S1
          replace B_2 := B_2.step hW
          rw [show (!t_27) = false from hl0] at S1
          have S0 := S.defers; replace S := S1; clear S1
          obtain ⟨et_36, et_43, _⟩ := (HG_33).1 hc0
          refine w_go S rfl (op_load (t := (.st (.pair (.int .u8) (.pair .bool (.pair (.int .u8) (.pair (.int .u16) (.int .u8))))))) (x := x0) S rfl ty35 rfl rfl rfl B_2.at_ ?_)
          clear S; intro a v_92 R_93 S
          refine wpList_nil ?_
          exact RPost.mk_ S rfl S0 ⟨fun _ => R_93, fun k_ => absurd hc0 k_⟩ (Below.refl _ _)
        · have hl0 : (!t_27) = true := (by simpa using hc0)
          have S1 := S
          intro v_95 hF_94; obtain rfl : v_95 = .bool (!t_27) := hF_94
          replace S1 := S1.put (by decide : 27 < 129) (.bool (!t_27))
          refine fill_nil S1 ?_; clear S1; intro a_ S1
          rw [show (!t_27) = true from hl0] at S1
          have S0 := S.defers; replace S := S1; clear S1
          refine wl_pure (l' := [(30, undef), (27, .bool true), (6, .int .i64 t_13.2), (5, v_14), (2, .pointer (some (⟨b_1, 0, .none⟩ : Addr))), (1, v1)]) S tys tys_ok 1 (by kernel_rfl) ?_; clear S; intro a S
          refine wpList_nil ?_
          exact RPost.mk_ S rfl S0 ⟨fun k_ => absurd k_ hc0, fun _ => rfl⟩ (Below.refl _ _)
      refine RunAll.cons (cndF (!t_27) false (isI .u8 t_43)) [(cndF (!t_27) false (isRep (.st (.pair (.int .u8) (.pair .bool (.pair (.int .u8) (.pair (.int .u16) (.int .u8)))))) (Kx K w.heap.size [some b_1]) x0), 30), (eqv (.bool (!t_27)), 27)] rfl rfl ?_ ?_
      · intro W_ hW
        by_cases hc0 : (!t_27) = false
        · have hl0 : (!t_27) = false := hc0
          have S1 := S
          intro v_96 hF_97
          replace hF_97 := cndF.pos hF_97 hc0
          revert hF_97
          revert v_96
          intro v_99 hF_98; replace hF_98 : RepV _ _ _ _ _ := hF_98
          replace S1 := S1.put (by decide : 30 < 129) (v_99)
          intro v_101 hF_100; obtain rfl : v_101 = .bool (!t_27) := hF_100
          replace S1 := S1.put (by decide : 27 < 129) (.bool (!t_27))
          refine fill_nil S1 ?_; clear S1; intro a_ S1
          replace W := W.step hW
          rw [show (!t_27) = false from hl0] at S1
          have S0 := S.defers; replace S := S1; clear S1
          obtain ⟨et_36, et_43, _⟩ := (HG_33).1 hc0
          refine w_go S rfl (op_call (vs := [v_99]) S rfl cb25 rfl rfl rfl (c25 (Kx K w.heap.size [some b_1]) n W_ x0 _ hF_98 et_43) ?_)
          rintro _ w_105 ⟨v_102, rfl, R_103, hb_104⟩; refine ⟨_, rfl, ?_⟩
          replace R_103 := RepV.back R_103 W
          clear S; intro a S
          obtain ⟨rfl, GR_103⟩ := RepV.int R_103
          refine wpList_nil ?_
          exact RPost.mk_ S rfl S0 ⟨fun _ => ⟨rfl, GR_103⟩, fun k_ => absurd hc0 k_⟩ (hb_104)
        · have hl0 : (!t_27) = true := (by simpa using hc0)
          have S1 := S
          intro v_106 hF_107
          obtain rfl := cndF.neg hF_107 hc0
          replace S1 := S1.put (by decide : 30 < 129) (undef)
          intro v_109 hF_108; obtain rfl : v_109 = .bool (!t_27) := hF_108
          replace S1 := S1.put (by decide : 27 < 129) (.bool (!t_27))
          refine fill_nil S1 ?_; clear S1; intro a_ S1
          rw [show (!t_27) = true from hl0] at S1
          have S0 := S.defers; replace S := S1; clear S1
          refine wl_pure (l' := [(31, undef), (27, .bool true), (30, undef), (6, .int .i64 t_13.2), (5, v_14), (2, .pointer (some (⟨b_1, 0, .none⟩ : Addr))), (1, v1)]) S tys tys_ok 1 (by kernel_rfl) ?_; clear S; intro a S
          refine wpList_nil ?_
          exact RPost.mk_ S rfl S0 ⟨fun k_ => absurd k_ hc0, fun _ => rfl⟩ (Below.refl _ _)
      refine RunAll.cons (cndF (!t_27) false (eqv (.bool (t_36 != t_43)))) [(cndF (!t_27) false (isI .u8 t_36), 29), (cndF (!t_27) false (isI .u8 t_43), 31), (eqv (.bool (!t_27)), 27)] rfl rfl ?_ ?_
      · intro W_ hW
        by_cases hc0 : (!t_27) = false
        · have hl0 : (!t_27) = false := hc0
          have S1 := S
          intro v_110 hF_111
          replace hF_111 := cndF.pos hF_111 hc0
          revert hF_111
          revert v_110
          rintro _ ⟨rfl, hF_112⟩
          replace S1 := S1.put (by decide : 29 < 129) (.int .u8 t_36)
          intro v_114 hF_115
          replace hF_115 := cndF.pos hF_115 hc0
          revert hF_115
          revert v_114
          rintro _ ⟨rfl, hF_116⟩
          replace S1 := S1.put (by decide : 31 < 129) (.int .u8 t_43)
          intro v_119 hF_118; obtain rfl : v_119 = .bool (!t_27) := hF_118
          replace S1 := S1.put (by decide : 27 < 129) (.bool (!t_27))
          refine fill_nil S1 ?_; clear S1; intro a_ S1
          rw [show (!t_27) = false from hl0] at S1
          have S0 := S.defers; replace S := S1; clear S1
          refine wl_pure (l' := [(32, .bool (t_36 != t_43)), (27, .bool false), (31, .int .u8 t_43), (29, .int .u8 t_36), (6, .int .i64 t_13.2), (5, v_14), (2, .pointer (some (⟨b_1, 0, .none⟩ : Addr))), (1, v1)]) S tys tys_ok 1 (by kernel_rfl) ?_; clear S; intro a S
          refine wpList_nil ?_
          exact RPost.mk_ S rfl S0 ⟨fun _ => rfl, fun k_ => absurd hc0 k_⟩ (Below.refl _ _)
        · have hl0 : (!t_27) = true := (by simpa using hc0)
          have S1 := S
          intro v_120 hF_121
          obtain rfl := cndF.neg hF_121 hc0
          replace S1 := S1.put (by decide : 29 < 129) (undef)
          intro v_122 hF_123
          obtain rfl := cndF.neg hF_123 hc0
          replace S1 := S1.put (by decide : 31 < 129) (undef)
          intro v_125 hF_124; obtain rfl : v_125 = .bool (!t_27) := hF_124
          replace S1 := S1.put (by decide : 27 < 129) (.bool (!t_27))
          refine fill_nil S1 ?_; clear S1; intro a_ S1
          rw [show (!t_27) = true from hl0] at S1
          have S0 := S.defers; replace S := S1; clear S1
          refine wl_pure (l' := [(32, undef), (27, .bool true), (31, undef), (29, undef), (6, .int .i64 t_13.2), (5, v_14), (2, .pointer (some (⟨b_1, 0, .none⟩ : Addr))), (1, v1)]) S tys tys_ok 1 (by kernel_rfl) ?_; clear S; intro a S
          refine wpList_nil ?_
          exact RPost.mk_ S rfl S0 ⟨fun k_ => absurd k_ hc0, fun _ => rfl⟩ (Below.refl _ _)
      refine RunAll.cons (eqv (.bool q_32)) [(eqv (.bool (!t_27)), 27), (cndF (!t_27) false (eqv (.bool (t_36 != t_43))), 32)] rfl rfl ?_ ?_
      · intro W_ hW
        by_cases hc0 : (!t_27) = false
        · have hl0 : (!t_27) = false := hc0
          have S1 := S
          intro v_127 hF_126; obtain rfl : v_127 = .bool (!t_27) := hF_126
          replace S1 := S1.put (by decide : 27 < 129) (.bool (!t_27))
          intro v_128 hF_129
          replace hF_129 := cndF.pos hF_129 hc0
          revert hF_129
          revert v_128
          intro v_131 hF_130; obtain rfl : v_131 = .bool (t_36 != t_43) := hF_130
          replace S1 := S1.put (by decide : 32 < 129) (.bool (t_36 != t_43))
          refine fill_nil S1 ?_; clear S1; intro a_ S1
          rw [show (!t_27) = false from hl0] at S1
          have S0 := S.defers; replace S := S1; clear S1
          refine wl_pure (l' := [(33, .bool (t_36 != t_43)), (32, .bool (t_36 != t_43)), (27, .bool false), (6, .int .i64 t_13.2), (5, v_14), (2, .pointer (some (⟨b_1, 0, .none⟩ : Addr))), (1, v1)]) S tys tys_ok 1 (by kernel_rfl) ?_; clear S; intro a S
          refine wpList_nil ?_
          exact RPost.mk_ S rfl S0 (congrArg Value.bool ((HG_33).1 hc0).2.2) (Below.refl _ _)
        · have hl0 : (!t_27) = true := (by simpa using hc0)
          have S1 := S
          intro v_133 hF_132; obtain rfl : v_133 = .bool (!t_27) := hF_132
          replace S1 := S1.put (by decide : 27 < 129) (.bool (!t_27))
          intro v_134 hF_135
          obtain rfl := cndF.neg hF_135 hc0
          replace S1 := S1.put (by decide : 32 < 129) (undef)
          refine fill_nil S1 ?_; clear S1; intro a_ S1
          rw [show (!t_27) = true from hl0] at S1
          have S0 := S.defers; replace S := S1; clear S1
          refine wl_pure (l' := [(33, .bool true), (32, undef), (27, .bool true), (6, .int .i64 t_13.2), (5, v_14), (2, .pointer (some (⟨b_1, 0, .none⟩ : Addr))), (1, v1)]) S tys tys_ok 1 (by kernel_rfl) ?_; clear S; intro a S
          refine wpList_nil ?_
          exact RPost.mk_ S rfl S0 (congrArg Value.bool ((HG_33).2 hc0)) (Below.refl _ _)
      exact trivial
    intro w_136 hb_137
    refine EndE.some_ rfl ?_
    intro v_139 hF_138; replace hF_138 : RepV _ _ _ _ _ := hF_138
    replace S := S.put (by decide : 21 < 129) (v_139)
    refine EndE.some_ rfl ?_
    rintro _ ⟨rfl, hF_140⟩
    replace S := S.put (by decide : 22 < 129) (.int .i64 t_13.2)
    refine EndE.some_ rfl ?_
    intro v_143 hF_142; replace hF_142 : RepV _ _ _ _ _ := hF_142
    replace S := S.put (by decide : 23 < 129) (v_143)
    refine EndE.some_ rfl ?_
    rintro _ ⟨rfl, hF_144⟩
    replace S := S.put (by decide : 24 < 129) (.string (strOfNums t_22))
    refine EndE.some_ rfl ?_
    intro v_147 hF_146; obtain rfl : v_147 = .bool t_27 := hF_146
    replace S := S.put (by decide : 25 < 129) (.bool t_27)
    refine EndE.some_ rfl ?_
    intro v_149 hF_148; obtain rfl : v_149 = .bool (!t_27) := hF_148
    replace S := S.put (by decide : 26 < 129) (.bool (!t_27))
    refine EndE.some_ rfl ?_
    intro v_151 hF_150; obtain rfl : v_151 = .bool (!t_27) := hF_150
    replace S := S.put (by decide : 27 < 129) (.bool (!t_27))
    refine EndE.some_ rfl ?_
    intro v_152 _
    replace S := S.put (by decide : 28 < 129) (v_152)
    refine EndE.some_ rfl ?_
    intro v_153 _
    replace S := S.put (by decide : 29 < 129) (v_153)
    refine EndE.some_ rfl ?_
    intro v_154 _
    replace S := S.put (by decide : 30 < 129) (v_154)
    refine EndE.some_ rfl ?_
    intro v_155 _
    replace S := S.put (by decide : 31 < 129) (v_155)
    refine EndE.some_ rfl ?_
    intro v_156 _
    replace S := S.put (by decide : 32 < 129) (v_156)
    refine EndE.some_ rfl ?_
    intro v_158 hF_157; obtain rfl : v_158 = .bool q_32 := hF_157
    replace S := S.put (by decide : 33 < 129) (.bool q_32)
    refine endE_nil S ?_; clear S; intro a S
    replace R_16 := R_16.step hb_137
    replace R1 := R1.step hb_137
    replace B_2 := B_2.step hb_137
    replace W := W.step hb_137
    refine then_n ?_
    replace S := S.sub (l' := [(33, .bool q_32), (6, .int .i64 t_13.2), (5, v_14), (2, .pointer (some (⟨b_1, 0, .none⟩ : Addr))), (1, v1)]) (by exact ⟨rfl, rfl, rfl, rfl, rfl, trivial⟩)
    refine wp_cond_split (S.eval (show ev _ _ = some (.bool q_32) from rfl)) ?_ ?_
    · intro hc
      rw [if_pos hc] at h
      refine wp_seq ?_
      refine wp_region_lit ?_
      refine wl_pure (l' := [(4, .bool false), (33, .bool q_32), (6, .int .i64 t_13.2), (5, v_14), (2, .pointer (some (⟨b_1, 0, .none⟩ : Addr))), (1, v1)]) S tys tys_ok 1 (by kernel_rfl) ?_
      clear S; intro a S
      refine wpList_nil ?_
      refine then_n ?_
      replace S := S.sub (l' := [(4, .bool false)]) (by exact ⟨rfl, trivial⟩)
      refine wp_ret ?_
      refine then_r ?_
      obtain rfl := Option.some.inj h
      exact b_ret1 S rfl rfl ⟨_, rfl, RepV.mkBool, W.below⟩
    · intro hc
      rw [if_neg (Bool.eq_false_iff.1 hc)] at h
      refine wp_skip ?_
      refine then_n ?_
      replace S := S.sub (l' := [(6, .int .i64 t_13.2), (5, v_14), (2, .pointer (some (⟨b_1, 0, .none⟩ : Addr))), (1, v1)]) (by exact ⟨rfl, rfl, rfl, rfl, trivial⟩)
      refine wp_seq ?_
      refine wp_seq ?_
      refine wp_region_lit ?_
      refine wl_pure (l' := [(35, v_14), (6, .int .i64 t_13.2), (5, v_14), (2, .pointer (some (⟨b_1, 0, .none⟩ : Addr))), (1, v1)]) S tys tys_ok 1 (by kernel_rfl) ?_
      clear S; intro a S
      obtain ⟨t_159, et_159, h⟩ := bindS h
      refine w_go S rfl (op_call (vs := [v_14]) S rfl cb26 rfl rfl rfl (c26 (Kx K w.heap.size [some b_1]) n w_136 t_13.1 _ R_16 et_159) ?_)
      rintro _ w_165 ⟨v_160, v_161, rfl, R_162, R_163, hb_164⟩; refine ⟨_, rfl, ?_⟩
      replace R_162 := RepV.back R_162 W
      replace R_163 := RepV.back R_163 W
      clear S; intro a S
      replace R_16 := R_16.step hb_164
      replace R1 := R1.step hb_164
      replace B_2 := B_2.step hb_164
      replace W := W.step hb_164
      obtain ⟨rfl, GR_163⟩ := RepV.int R_163
      refine wl_pure (l' := [(38, .int .i64 t_159.2), (37, v_160), (34, .tuple #[v_160, .int .i64 t_159.2]), (36, .tuple #[v_160, .int .i64 t_159.2]), (35, v_14), (6, .int .i64 t_13.2), (5, v_14), (2, .pointer (some (⟨b_1, 0, .none⟩ : Addr))), (1, v1)]) S tys tys_ok 3 (by kernel_rfl) ?_
      clear S; intro a S
      refine w_go S rfl (op_alloc (K := K) (n := w.heap.size) (L := [some b_1]) (t := (.st (.pair (.int .u8) (.pair .bool (.pair (.int .u8) (.pair (.int .u16) (.int .u8))))))) (y := (0, false, 0, 0, 0)) S rfl rfl rfl _ z35 (fun w K => ⟨[.int .u8 0], [.bool false, .int .u8 0, .int .u16 0, .int .u8 0], rfl, ⟨rfl, by decide⟩, ⟨[.bool false], [.int .u8 0, .int .u16 0, .int .u8 0], rfl, rfl, ⟨[.int .u8 0], [.int .u16 0, .int .u8 0], rfl, ⟨rfl, by decide⟩, ⟨[.int .u16 0], [.int .u8 0], rfl, ⟨rfl, by decide⟩, ⟨rfl, by decide⟩⟩⟩⟩⟩) ?_)
      clear S; intro a w_168 b_166 hb_169 B_167 S
      replace R_16 := R_16.box hb_169
      replace R1 := R1.box hb_169
      replace R_162 := R_162.box hb_169
      replace B_2 := B_2.box hb_169
      replace W := W.box hb_169
      refine w_go S rfl (op_store (t' := (.st (.pair (.int .u8) (.pair .bool (.pair (.int .u8) (.pair (.int .u16) (.int .u8))))))) S rfl rfl ty35 rfl rfl rfl B_167 (by simp) Ln.whole R_162 ?_)
      intro w_170 hw_171 B_
      replace R_16 := R_16.wrote hw_171 (by simp)
      replace R1 := R1.wrote hw_171 (by simp)
      replace R_162 := R_162.wrote hw_171 (by simp)
      replace B_2 := B_2.wrote hw_171 (by simp) (W.bne (p := 1) (q := 0) (by decide) rfl rfl)
      replace W := W.wrote hw_171 (by simp)
      replace B_167 : Bx (.st (.pair (.int .u8) (.pair .bool (.pair (.int .u8) (.pair (.int .u16) (.int .u8)))))) 35 w_170 (Kx K w.heap.size [some b_166, some b_1]) b_166 t_159.1 := B_; clear B_
      refine wl_pure (l' := [(8, .int .i64 t_159.2), (7, .pointer (some (⟨b_166, 0, .none⟩ : Addr))), (38, .int .i64 t_159.2), (37, v_160), (34, .tuple #[v_160, .int .i64 t_159.2]), (36, .tuple #[v_160, .int .i64 t_159.2]), (35, v_14), (6, .int .i64 t_13.2), (5, v_14), (2, .pointer (some (⟨b_1, 0, .none⟩ : Addr))), (1, v1)]) S tys tys_ok 1 (by kernel_rfl) ?_
      clear S; intro a S
      refine wpList_nil ?_
      refine then_n ?_
      replace S := S.sub (l' := [(8, .int .i64 t_159.2), (7, .pointer (some (⟨b_166, 0, .none⟩ : Addr))), (6, .int .i64 t_13.2), (2, .pointer (some (⟨b_1, 0, .none⟩ : Addr))), (1, v1)]) (by exact ⟨rfl, rfl, rfl, rfl, rfl, trivial⟩)
      refine wp_seq ?_
      refine wp_region_lit ?_
      refine wl_pure (l' := [(41, .bool (t_13.2 == 0)), (40, .bool (t_13.2 == 0)), (39, .int .i64 t_13.2), (8, .int .i64 t_159.2), (7, .pointer (some (⟨b_166, 0, .none⟩ : Addr))), (6, .int .i64 t_13.2), (2, .pointer (some (⟨b_1, 0, .none⟩ : Addr))), (1, v1)]) S tys tys_ok 3 (by kernel_rfl) ?_
      clear S; intro a S
      obtain ⟨q_172, eq_172, h⟩ := bindS h
      refine seg 8 (fun a_ w_ => w_170 = w_ ∧ St 129 a_ [(49, .bool q_172), (1, v1)]) ?_ ?_
      · by_cases hc : (t_13.2 == 0) = true
        · rw [if_pos hc] at eq_172; rw [hc] at S
          refine w_go S rfl (op_load (t := (.st (.pair (.int .u8) (.pair .bool (.pair (.int .u8) (.pair (.int .u16) (.int .u8))))))) (x := t_159.1) S rfl ty35 rfl rfl rfl B_167.at_ ?_)
          clear S; intro a v_173 R_174 S
          refine w_go S rfl (op_load (t := (.st (.pair (.int .u8) (.pair .bool (.pair (.int .u8) (.pair (.int .u16) (.int .u8))))))) (x := x0) S rfl ty35 rfl rfl rfl B_2.at_ ?_)
          clear S; intro a v_175 R_176 S
          refine w_go S rfl (op_stneq (t := (.pair (.int .u8) (.pair .bool (.pair (.int .u8) (.pair (.int .u16) (.int .u8)))))) (m := t_159.1) (n := x0) S rfl rfl rfl rfl rfl rfl ty35 eq35 R_174 R_176 ?_)
          clear S; intro a S
          refine wl_pure (l' := [(45, .bool (!(eqP (.pair (.int .u8) (.pair .bool (.pair (.int .u8) (.pair (.int .u16) (.int .u8))))) t_159.1 x0))), (44, .bool (!(eqP (.pair (.int .u8) (.pair .bool (.pair (.int .u8) (.pair (.int .u16) (.int .u8))))) t_159.1 x0))), (43, v_175), (42, v_173), (41, .bool true), (40, .bool true), (39, .int .i64 t_13.2), (8, .int .i64 t_159.2), (7, .pointer (some (⟨b_166, 0, .none⟩ : Addr))), (6, .int .i64 t_13.2), (2, .pointer (some (⟨b_1, 0, .none⟩ : Addr))), (1, v1)]) S tys tys_ok 1 (by kernel_rfl) ?_
          clear S; intro a S
          obtain ⟨q_177, eq_177, eq_172⟩ := bindS eq_172
          refine seg 3 (fun a_ w_ => w_170 = w_ ∧ St 129 a_ [(48, .bool q_177), (41, .bool true), (1, v1)]) ?_ ?_
          · by_cases hc : (!(eqP (.pair (.int .u8) (.pair .bool (.pair (.int .u8) (.pair (.int .u16) (.int .u8))))) t_159.1 x0)) = false
            · rw [if_pos hc] at eq_177; rw [hc] at S
              refine wl_pure (l' := [(48, .bool (t_159.2 != 0)), (47, .bool (t_159.2 != 0)), (46, .int .i64 t_159.2), (45, .bool false), (44, .bool false), (43, v_175), (42, v_173), (41, .bool true), (40, .bool true), (39, .int .i64 t_13.2), (8, .int .i64 t_159.2), (7, .pointer (some (⟨b_166, 0, .none⟩ : Addr))), (6, .int .i64 t_13.2), (2, .pointer (some (⟨b_1, 0, .none⟩ : Addr))), (1, v1)]) S tys tys_ok 3 (by kernel_rfl) ?_
              clear S; intro a S
              obtain rfl := Option.some.inj eq_177
              exact ⟨rfl, S.sub (by exact ⟨rfl, rfl, rfl, trivial⟩)⟩
            · rw [if_neg hc] at eq_177; rw [show (!(eqP (.pair (.int .u8) (.pair .bool (.pair (.int .u8) (.pair (.int .u16) (.int .u8))))) t_159.1 x0)) = true from (by simpa using hc)] at S
              refine wl_pure (l' := [(48, .bool true), (47, undef), (46, undef), (45, .bool true), (44, .bool true), (43, v_175), (42, v_173), (41, .bool true), (40, .bool true), (39, .int .i64 t_13.2), (8, .int .i64 t_159.2), (7, .pointer (some (⟨b_166, 0, .none⟩ : Addr))), (6, .int .i64 t_13.2), (2, .pointer (some (⟨b_1, 0, .none⟩ : Addr))), (1, v1)]) S tys tys_ok 3 (by kernel_rfl) ?_
              clear S; intro a S
              obtain rfl := Option.some.inj eq_177
              exact ⟨rfl, S.sub (by exact ⟨rfl, rfl, rfl, trivial⟩)⟩
          clear S eq_177; rintro a _ ⟨rfl, S⟩
          refine wl_pure (l' := [(49, .bool q_177), (48, .bool q_177), (41, .bool true), (1, v1)]) S tys tys_ok 1 (by kernel_rfl) ?_
          clear S; intro a S
          obtain rfl := Option.some.inj eq_172
          exact ⟨rfl, S.sub (by exact ⟨rfl, rfl, trivial⟩)⟩
        · rw [if_neg hc] at eq_172; rw [show (t_13.2 == 0) = false from Bool.eq_false_iff.2 hc] at S
          refine wl_pure (l' := [(49, .bool false), (48, undef), (47, undef), (46, undef), (45, undef), (44, undef), (43, undef), (42, undef), (41, .bool false), (40, .bool false), (39, .int .i64 t_13.2), (8, .int .i64 t_159.2), (7, .pointer (some (⟨b_166, 0, .none⟩ : Addr))), (6, .int .i64 t_13.2), (2, .pointer (some (⟨b_1, 0, .none⟩ : Addr))), (1, v1)]) S tys tys_ok 8 (by kernel_rfl) ?_
          clear S; intro a S
          obtain rfl := Option.some.inj eq_172
          exact ⟨rfl, S.sub (by exact ⟨rfl, rfl, trivial⟩)⟩
      clear S eq_172; rintro a _ ⟨rfl, S⟩
      refine wpList_nil ?_
      refine then_n ?_
      refine wp_cond_split (S.eval (show ev _ _ = some (.bool q_172) from rfl)) ?_ ?_
      · intro hc
        rw [if_pos hc] at h
        refine wp_seq ?_
        refine wp_region_lit ?_
        refine wl_pure (l' := [(4, .bool false), (49, .bool q_172), (1, v1)]) S tys tys_ok 1 (by kernel_rfl) ?_
        clear S; intro a S
        refine wpList_nil ?_
        refine then_n ?_
        replace S := S.sub (l' := [(4, .bool false)]) (by exact ⟨rfl, trivial⟩)
        refine wp_ret ?_
        refine then_r ?_
        obtain rfl := Option.some.inj h
        exact b_ret1 S rfl rfl ⟨_, rfl, RepV.mkBool, W.below⟩
      · intro hc
        rw [if_neg (Bool.eq_false_iff.1 hc)] at h
        refine wp_skip ?_
        refine then_n ?_
        replace S := S.sub (l' := [(1, v1)]) (by exact ⟨rfl, trivial⟩)
        refine wp_seq ?_
        refine wp_region_lit ?_
        refine wl_pure (l' := [(51, v1), (1, v1)]) S tys tys_ok 1 (by kernel_rfl) ?_
        clear S; intro a S
        obtain ⟨t_178, et_178, h⟩ := bindS h
        refine w_go S rfl (op_call (vs := [v1]) S rfl cb26 rfl rfl rfl (c26 (Kx K w.heap.size [some b_166, some b_1]) n w_170 x1 _ R1 et_178) ?_)
        rintro _ w_184 ⟨v_179, v_180, rfl, R_181, R_182, hb_183⟩; refine ⟨_, rfl, ?_⟩
        replace R_181 := RepV.back R_181 W
        replace R_182 := RepV.back R_182 W
        clear S; intro a S
        replace R1 := R1.step hb_183
        replace B_2 := B_2.step hb_183
        replace B_167 := B_167.step hb_183
        replace W := W.step hb_183
        obtain ⟨rfl, GR_182⟩ := RepV.int R_182
        refine wl_pure (l' := [(54, .int .i64 t_178.2), (53, v_179), (50, .tuple #[v_179, .int .i64 t_178.2]), (52, .tuple #[v_179, .int .i64 t_178.2]), (51, v1), (1, v1)]) S tys tys_ok 3 (by kernel_rfl) ?_
        clear S; intro a S
        refine w_go S rfl (op_alloc (K := K) (n := w.heap.size) (L := [some b_166, some b_1]) (t := (.st (.pair (.int .u8) (.pair .bool (.pair (.int .u8) (.pair (.int .u16) (.int .u8))))))) (y := (0, false, 0, 0, 0)) S rfl rfl rfl _ z35 (fun w K => ⟨[.int .u8 0], [.bool false, .int .u8 0, .int .u16 0, .int .u8 0], rfl, ⟨rfl, by decide⟩, ⟨[.bool false], [.int .u8 0, .int .u16 0, .int .u8 0], rfl, rfl, ⟨[.int .u8 0], [.int .u16 0, .int .u8 0], rfl, ⟨rfl, by decide⟩, ⟨[.int .u16 0], [.int .u8 0], rfl, ⟨rfl, by decide⟩, ⟨rfl, by decide⟩⟩⟩⟩⟩) ?_)
        clear S; intro a w_187 b_185 hb_188 B_186 S
        replace R1 := R1.box hb_188
        replace R_181 := R_181.box hb_188
        replace B_2 := B_2.box hb_188
        replace B_167 := B_167.box hb_188
        replace W := W.box hb_188
        refine w_go S rfl (op_store (t' := (.st (.pair (.int .u8) (.pair .bool (.pair (.int .u8) (.pair (.int .u16) (.int .u8))))))) S rfl rfl ty35 rfl rfl rfl B_186 (by simp) Ln.whole R_181 ?_)
        intro w_189 hw_190 B_
        replace R1 := R1.wrote hw_190 (by simp)
        replace R_181 := R_181.wrote hw_190 (by simp)
        replace B_2 := B_2.wrote hw_190 (by simp) (W.bne (p := 2) (q := 0) (by decide) rfl rfl)
        replace B_167 := B_167.wrote hw_190 (by simp) (W.bne (p := 1) (q := 0) (by decide) rfl rfl)
        replace W := W.wrote hw_190 (by simp)
        replace B_186 : Bx (.st (.pair (.int .u8) (.pair .bool (.pair (.int .u8) (.pair (.int .u16) (.int .u8)))))) 35 w_189 (Kx K w.heap.size [some b_185, some b_166, some b_1]) b_185 t_178.1 := B_; clear B_
        refine wl_pure (l' := [(10, .int .i64 t_178.2), (9, .pointer (some (⟨b_185, 0, .none⟩ : Addr))), (54, .int .i64 t_178.2), (53, v_179), (50, .tuple #[v_179, .int .i64 t_178.2]), (52, .tuple #[v_179, .int .i64 t_178.2]), (51, v1), (1, v1)]) S tys tys_ok 1 (by kernel_rfl) ?_
        clear S; intro a S
        refine wpList_nil ?_
        refine then_n ?_
        replace S := S.sub (l' := [(10, .int .i64 t_178.2), (9, .pointer (some (⟨b_185, 0, .none⟩ : Addr))), (1, v1)]) (by exact ⟨rfl, rfl, rfl, trivial⟩)
        refine wp_seq ?_
        refine wp_seq ?_
        refine wp_region_lit ?_
        refine wl_pure (l' := [(56, .bool (t_178.2 != 0)), (55, .int .i64 t_178.2), (10, .int .i64 t_178.2), (9, .pointer (some (⟨b_185, 0, .none⟩ : Addr))), (1, v1)]) S tys tys_ok 2 (by kernel_rfl) ?_
        clear S; intro a S
        refine wpList_nil ?_
        refine then_n ?_
        replace S := S.sub (l' := [(56, .bool (t_178.2 != 0)), (10, .int .i64 t_178.2), (9, .pointer (some (⟨b_185, 0, .none⟩ : Addr))), (1, v1)]) (by exact ⟨rfl, rfl, rfl, rfl, trivial⟩)
        refine wp_cond_split (S.eval (show ev _ _ = some (.bool (t_178.2 != 0)) from rfl)) ?_ ?_
        · intro hc
          rw [if_pos hc] at h
          refine wp_seq ?_
          refine wp_seq ?_
          refine wp_region_lit ?_
          refine wl_pure (l' := [(58, v1), (57, .int .i64 t_178.2), (56, .bool (t_178.2 != 0)), (10, .int .i64 t_178.2), (9, .pointer (some (⟨b_185, 0, .none⟩ : Addr))), (1, v1)]) S tys tys_ok 2 (by kernel_rfl) ?_
          clear S; intro a S
          refine w_go S rfl (op_len (K := _) S rfl ty23 rfl rfl rfl R1 ?_)
          clear S; intro a G_191 S
          obtain ⟨t_192, et_192, h⟩ := bindS h
          refine w_go S rfl (op_call (vs := [.int .i64 t_178.2, .int .i64 (lenI x1), .int .i64 7]) S rfl cb22 rfl rfl rfl (c22 (Kx K w.heap.size [some b_185, some b_166, some b_1]) n w_189 t_178.2 GR_182 (lenI x1) G_191 7 (by decide) et_192) ?_)
          rintro _ w_196 ⟨v_193, rfl, R_194, hb_195⟩; refine ⟨_, rfl, ?_⟩
          replace R_194 := RepV.back R_194 W
          clear S; intro a S
          replace R1 := R1.step hb_195
          replace B_2 := B_2.step hb_195
          replace B_167 := B_167.step hb_195
          replace B_186 := B_186.step hb_195
          replace W := W.step hb_195
          obtain rfl := RepV.bool R_194
          refine wl_pure (l' := [(62, .bool (!t_192)), (61, .bool (!t_192)), (60, .bool t_192), (59, .int .i64 (lenI x1)), (58, v1), (57, .int .i64 t_178.2), (56, .bool (t_178.2 != 0)), (10, .int .i64 t_178.2), (9, .pointer (some (⟨b_185, 0, .none⟩ : Addr))), (1, v1)]) S tys tys_ok 2 (by kernel_rfl) ?_
          clear S; intro a S
          obtain ⟨q_197, eq_197, h⟩ := bindS h
          refine seg 4 (fun a_ w_ => w_196 = w_ ∧ St 129 a_ [(66, .bool q_197), (1, v1)]) ?_ ?_
          · by_cases hc : (!t_192) = false
            · rw [if_pos hc] at eq_197; rw [hc] at S
              refine w_go S rfl (op_load (t := (.st (.pair (.int .u8) (.pair .bool (.pair (.int .u8) (.pair (.int .u16) (.int .u8))))))) (x := t_178.1) S rfl ty35 rfl rfl rfl B_186.at_ ?_)
              clear S; intro a v_198 R_199 S
              refine w_go S rfl (op_build (K := (Kx K w.heap.size [some b_185, some b_166, some b_1])) (f := (.pair (.int .u8) (.pair .bool (.pair (.int .u8) (.pair (.int .u16) (.int .u8)))))) (z0 := (0, false, 0, 0, 0)) (x := (0, false, 0, 0, 0)) (vs := []) S _ rfl ty35 z35 (fun w K => ⟨[.int .u8 0], [.bool false, .int .u8 0, .int .u16 0, .int .u8 0], rfl, ⟨rfl, by decide⟩, ⟨[.bool false], [.int .u8 0, .int .u16 0, .int .u8 0], rfl, rfl, ⟨[.int .u8 0], [.int .u16 0, .int .u8 0], rfl, ⟨rfl, by decide⟩, ⟨[.int .u16 0], [.int .u8 0], rfl, ⟨rfl, by decide⟩, ⟨rfl, by decide⟩⟩⟩⟩⟩) rfl rfl rfl [] rfl rfl ?_)
              clear S; intro a v_200 R_201 S
              refine w_go S rfl (op_stneq (t := (.pair (.int .u8) (.pair .bool (.pair (.int .u8) (.pair (.int .u16) (.int .u8)))))) (m := t_178.1) (n := (0, false, 0, 0, 0)) S rfl rfl rfl rfl rfl rfl ty35 eq35 R_199 R_201 ?_)
              clear S; intro a S
              refine wl_pure (l' := [(66, .bool (!(eqP (.pair (.int .u8) (.pair .bool (.pair (.int .u8) (.pair (.int .u16) (.int .u8))))) t_178.1 (0, false, 0, 0, 0)))), (65, .bool (!(eqP (.pair (.int .u8) (.pair .bool (.pair (.int .u8) (.pair (.int .u16) (.int .u8))))) t_178.1 (0, false, 0, 0, 0)))), (64, v_200), (63, v_198), (62, .bool false), (61, .bool false), (60, .bool t_192), (59, .int .i64 (lenI x1)), (58, v1), (57, .int .i64 t_178.2), (56, .bool (t_178.2 != 0)), (10, .int .i64 t_178.2), (9, .pointer (some (⟨b_185, 0, .none⟩ : Addr))), (1, v1)]) S tys tys_ok 1 (by kernel_rfl) ?_
              clear S; intro a S
              obtain rfl := Option.some.inj eq_197
              exact ⟨rfl, S.sub (by exact ⟨rfl, rfl, trivial⟩)⟩
            · rw [if_neg hc] at eq_197; rw [show (!t_192) = true from (by simpa using hc)] at S
              refine wl_pure (l' := [(66, .bool true), (65, undef), (64, undef), (63, undef), (62, .bool true), (61, .bool true), (60, .bool t_192), (59, .int .i64 (lenI x1)), (58, v1), (57, .int .i64 t_178.2), (56, .bool (t_178.2 != 0)), (10, .int .i64 t_178.2), (9, .pointer (some (⟨b_185, 0, .none⟩ : Addr))), (1, v1)]) S tys tys_ok 4 (by kernel_rfl) ?_
              clear S; intro a S
              obtain rfl := Option.some.inj eq_197
              exact ⟨rfl, S.sub (by exact ⟨rfl, rfl, trivial⟩)⟩
          clear S eq_197; rintro a _ ⟨rfl, S⟩
          refine wpList_nil ?_
          refine then_n ?_
          refine wp_cond_split (S.eval (show ev _ _ = some (.bool q_197) from rfl)) ?_ ?_
          · intro hc
            rw [if_pos hc] at h
            refine wp_seq ?_
            refine wp_region_lit ?_
            refine wl_pure (l' := [(4, .bool false), (66, .bool q_197), (1, v1)]) S tys tys_ok 1 (by kernel_rfl) ?_
            clear S; intro a S
            refine wpList_nil ?_
            refine then_n ?_
            replace S := S.sub (l' := [(4, .bool false)]) (by exact ⟨rfl, trivial⟩)
            refine wp_ret ?_
            refine then_r ?_
            refine then_r ?_
            obtain rfl := Option.some.inj h
            exact b_ret1 S rfl rfl ⟨_, rfl, RepV.mkBool, W.below⟩
          · intro hc
            rw [if_neg (Bool.eq_false_iff.1 hc)] at h
            refine wp_skip ?_
            refine then_n ?_
            replace S := S.sub (l' := [(1, v1)]) (by exact ⟨rfl, trivial⟩)
            refine wp_seq ?_
            refine wp_region_lit ?_
            refine wl_pure (l' := [(11, .bool false), (1, v1)]) S tys tys_ok 1 (by kernel_rfl) ?_
            clear S; intro a S
            refine wpList_nil ?_
            refine then_n ?_
            refine wp_seq ?_
            refine wp_seq ?_
            refine wp_region_lit ?_
            refine wl_pure (l' := [(67, v1), (11, .bool false), (1, v1)]) S tys tys_ok 1 (by kernel_rfl) ?_
            clear S; intro a S
            refine w_go S rfl (op_len (K := _) S rfl ty23 rfl rfl rfl R1 ?_)
            clear S; intro a G_202 S
            refine wl_pure (l' := [(70, .bool ((lenI x1) == 7)), (69, .bool ((lenI x1) == 7)), (68, .int .i64 (lenI x1)), (67, v1), (11, .bool false), (1, v1)]) S tys tys_ok 2 (by kernel_rfl) ?_
            clear S; intro a S
            obtain ⟨q_203, eq_203, h⟩ := bindS h
            refine seg 5 (fun a_ w_ => w_196 = w_ ∧ St 129 a_ [(75, .bool q_203), (11, .bool false), (1, v1)]) ?_ ?_
            · by_cases hc : ((lenI x1) == 7) = true
              · rw [if_pos hc] at eq_203; rw [hc] at S
                refine wl_pure (l' := [(71, v1), (70, .bool true), (69, .bool true), (68, .int .i64 (lenI x1)), (67, v1), (11, .bool false), (1, v1)]) S tys tys_ok 1 (by kernel_rfl) ?_
                clear S; intro a S
                obtain ⟨y_204, ey_204, eq_203⟩ := bindS eq_203
                refine w_go S rfl (op_indexAddr S rfl ty23 rfl rfl rfl R1 rfl ey_204 ?_)
                clear S; intro a p_205 R_206 H_207 S
                refine w_go S rfl (op_load (t := (.int .u8)) (x := y_204) S rfl ty5 rfl rfl rfl R_206 ?_)
                clear S; intro a v_208 R_209 S
                obtain ⟨rfl, GR_209⟩ := RepV.int R_209
                refine wl_pure (l' := [(75, .bool (y_204 == 7)), (74, .bool (y_204 == 7)), (73, .int .u8 y_204), (72, .pointer (some p_205)), (71, v1), (70, .bool true), (69, .bool true), (68, .int .i64 (lenI x1)), (67, v1), (11, .bool false), (1, v1)]) S tys tys_ok 2 (by kernel_rfl) ?_
                clear S; intro a S
                obtain rfl := Option.some.inj eq_203
                exact ⟨rfl, S.sub (by exact ⟨rfl, rfl, rfl, trivial⟩)⟩
              · rw [if_neg hc] at eq_203; rw [show ((lenI x1) == 7) = false from Bool.eq_false_iff.2 hc] at S
                refine wl_pure (l' := [(75, .bool false), (74, undef), (73, undef), (72, undef), (71, undef), (70, .bool false), (69, .bool false), (68, .int .i64 (lenI x1)), (67, v1), (11, .bool false), (1, v1)]) S tys tys_ok 5 (by kernel_rfl) ?_
                clear S; intro a S
                obtain rfl := Option.some.inj eq_203
                exact ⟨rfl, S.sub (by exact ⟨rfl, rfl, rfl, trivial⟩)⟩
            clear S eq_203; rintro a _ ⟨rfl, S⟩
            refine wl_pure (l' := [(76, .bool q_203), (75, .bool q_203), (11, .bool false), (1, v1)]) S tys tys_ok 1 (by kernel_rfl) ?_
            clear S; intro a S
            obtain ⟨q_210, eq_210, h⟩ := bindS h
            refine seg 5 (fun a_ w_ => w_196 = w_ ∧ St 129 a_ [(81, .bool q_210), (11, .bool false), (1, v1)]) ?_ ?_
            · by_cases hc : q_203 = true
              · rw [if_pos hc] at eq_210; rw [hc] at S
                refine wl_pure (l' := [(77, v1), (76, .bool true), (75, .bool true), (11, .bool false), (1, v1)]) S tys tys_ok 1 (by kernel_rfl) ?_
                clear S; intro a S
                obtain ⟨y_211, ey_211, eq_210⟩ := bindS eq_210
                refine w_go S rfl (op_indexAddr S rfl ty23 rfl rfl rfl R1 rfl ey_211 ?_)
                clear S; intro a p_212 R_213 H_214 S
                refine w_go S rfl (op_load (t := (.int .u8)) (x := y_211) S rfl ty5 rfl rfl rfl R_213 ?_)
                clear S; intro a v_215 R_216 S
                obtain ⟨rfl, GR_216⟩ := RepV.int R_216
                refine wl_pure (l' := [(81, .bool (y_211 == 5)), (80, .bool (y_211 == 5)), (79, .int .u8 y_211), (78, .pointer (some p_212)), (77, v1), (76, .bool true), (75, .bool true), (11, .bool false), (1, v1)]) S tys tys_ok 2 (by kernel_rfl) ?_
                clear S; intro a S
                obtain rfl := Option.some.inj eq_210
                exact ⟨rfl, S.sub (by exact ⟨rfl, rfl, rfl, trivial⟩)⟩
              · rw [if_neg hc] at eq_210; rw [show q_203 = false from Bool.eq_false_iff.2 hc] at S
                refine wl_pure (l' := [(81, .bool false), (80, undef), (79, undef), (78, undef), (77, undef), (76, .bool false), (75, .bool false), (11, .bool false), (1, v1)]) S tys tys_ok 5 (by kernel_rfl) ?_
                clear S; intro a S
                obtain rfl := Option.some.inj eq_210
                exact ⟨rfl, S.sub (by exact ⟨rfl, rfl, rfl, trivial⟩)⟩
            clear S eq_210; rintro a _ ⟨rfl, S⟩
            refine wl_pure (l' := [(82, .bool q_210), (81, .bool q_210), (11, .bool false), (1, v1)]) S tys tys_ok 1 (by kernel_rfl) ?_
            clear S; intro a S
            obtain ⟨q_217, eq_217, h⟩ := bindS h
            refine seg 6 (fun a_ w_ => w_196 = w_ ∧ St 129 a_ [(88, .bool q_217), (11, .bool false), (1, v1)]) ?_ ?_
            · by_cases hc : q_210 = true
              · rw [if_pos hc] at eq_217; rw [hc] at S
                refine wl_pure (l' := [(83, v1), (82, .bool true), (81, .bool true), (11, .bool false), (1, v1)]) S tys tys_ok 1 (by kernel_rfl) ?_
                clear S; intro a S
                obtain ⟨y_218, ey_218, eq_217⟩ := bindS eq_217
                refine w_go S rfl (op_indexAddr S rfl ty23 rfl rfl rfl R1 rfl ey_218 ?_)
                clear S; intro a p_219 R_220 H_221 S
                refine w_go S rfl (op_load (t := (.int .u8)) (x := y_218) S rfl ty5 rfl rfl rfl R_220 ?_)
                clear S; intro a v_222 R_223 S
                obtain ⟨rfl, GR_223⟩ := RepV.int R_223
                obtain ⟨x_224, ex_224, eq_217⟩ := bindS eq_217
                refine w_go S rfl (op_rem S .u8 rfl rfl rfl rfl rfl ex_224 ?_)
                clear S; intro a S
                refine wl_pure (l' := [(88, .bool (decide (x_224 < 16))), (87, .bool (decide (x_224 < 16))), (86, .int .u8 x_224), (85, .int .u8 y_218), (84, .pointer (some p_219)), (83, v1), (82, .bool true), (81, .bool true), (11, .bool false), (1, v1)]) S tys tys_ok 2 (by kernel_rfl) ?_
                clear S; intro a S
                obtain rfl := Option.some.inj eq_217
                exact ⟨rfl, S.sub (by exact ⟨rfl, rfl, rfl, trivial⟩)⟩
              · rw [if_neg hc] at eq_217; rw [show q_210 = false from Bool.eq_false_iff.2 hc] at S
                refine wl_pure (l' := [(88, .bool false), (87, undef), (86, undef), (85, undef), (84, undef), (83, undef), (82, .bool false), (81, .bool false), (11, .bool false), (1, v1)]) S tys tys_ok 6 (by kernel_rfl) ?_
                clear S; intro a S
                obtain rfl := Option.some.inj eq_217
                exact ⟨rfl, S.sub (by exact ⟨rfl, rfl, rfl, trivial⟩)⟩
            clear S eq_217; rintro a _ ⟨rfl, S⟩
            refine wpList_nil ?_
            refine then_n ?_
            obtain ⟨j_225, ej_225, h⟩ := bindS h
            refine wp_cut_ (fun a_ w_ => St 129 a_ [(11, .bool j_225)] ∧ Wd w w_ [some b_185, some b_166, some b_1] ∧ Bx (.st (.pair (.int .u8) (.pair .bool (.pair (.int .u8) (.pair (.int .u16) (.int .u8)))))) 35 w_ (Kx K w.heap.size [some b_185, some b_166, some b_1]) b_1 x0 ∧ Bx (.st (.pair (.int .u8) (.pair .bool (.pair (.int .u8) (.pair (.int .u16) (.int .u8)))))) 35 w_ (Kx K w.heap.size [some b_185, some b_166, some b_1]) b_166 t_159.1 ∧ Bx (.st (.pair (.int .u8) (.pair .bool (.pair (.int .u8) (.pair (.int .u16) (.int .u8)))))) 35 w_ (Kx K w.heap.size [some b_185, some b_166, some b_1]) b_185 t_178.1) ?_ ?_
            · refine wp_cond_split (S.eval (show ev _ _ = some (.bool q_217) from rfl)) ?_ ?_
              · intro hc
                rw [if_pos hc] at ej_225
                obtain ⟨y_226, ey_226, ej_225⟩ := bindS ej_225
                obtain ⟨x_232, ex_232, ej_225⟩ := bindS ej_225
                obtain ⟨y_233, ey_233, ej_225⟩ := bindS ej_225
                obtain ⟨y_239, ey_239, ej_225⟩ := bindS ej_225
                obtain ⟨y_245, ey_245, ej_225⟩ := bindS ej_225
                obtain ⟨y_251, ey_251, ej_225⟩ := bindS ej_225
                obtain ⟨y_257, ey_257, ej_225⟩ := bindS ej_225
                obtain ⟨t_265, et_265, ej_225⟩ := bindS ej_225
                have hR : Rel (Kx K w.heap.size [some b_185, some b_166, some b_1]) Bl := Bl.rel _
                refine wp_region_all hR [isRep (.sl (.int .u8)) (Kx K w.heap.size [some b_185, some b_166, some b_1]) x1, isEl (.int .u8) (Kx K w.heap.size [some b_185, some b_166, some b_1]) y_226, isI .u8 y_226, isI .u8 x_232, isRep (.sl (.int .u8)) (Kx K w.heap.size [some b_185, some b_166, some b_1]) x1, isEl (.int .u8) (Kx K w.heap.size [some b_185, some b_166, some b_1]) y_233, isI .u8 y_233, eqv (.bool (decide (y_233 > 127))), isRep (.sl (.int .u8)) (Kx K w.heap.size [some b_185, some b_166, some b_1]) x1, isEl (.int .u8) (Kx K w.heap.size [some b_185, some b_166, some b_1]) y_239, isI .u8 y_239, isRep (.sl (.int .u8)) (Kx K w.heap.size [some b_185, some b_166, some b_1]) x1, isEl (.int .u8) (Kx K w.heap.size [some b_185, some b_166, some b_1]) y_245, isI .u8 y_245, isI .u16 y_245, isRep (.sl (.int .u8)) (Kx K w.heap.size [some b_185, some b_166, some b_1]) x1, isEl (.int .u8) (Kx K w.heap.size [some b_185, some b_166, some b_1]) y_251, isI .u8 y_251, isI .u16 y_251, isI .u16 (IntKind.wrap .u16 (256 * y_251)), isI .u16 (IntKind.wrap .u16 (y_245 + (IntKind.wrap .u16 (256 * y_251)))), isRep (.sl (.int .u8)) (Kx K w.heap.size [some b_185, some b_166, some b_1]) x1, isEl (.int .u8) (Kx K w.heap.size [some b_185, some b_166, some b_1]) y_257, isI .u8 y_257, isRep (.st (.pair (.int .u8) (.pair .bool (.pair (.int .u8) (.pair (.int .u16) (.int .u8)))))) (Kx K w.heap.size [some b_185, some b_166, some b_1]) (x_232, (decide (y_233 > 127)), y_239, IntKind.wrap .u16 (y_245 + (IntKind.wrap .u16 (256 * y_251))), y_257), isS t_265, eqv (.bool (!(decide (t_265 = [])))), eqv (.bool (!(decide (t_265 = []))))] [[], [(0, 89)], [(1, 90)], [(2, 91)], [], [(4, 93)], [(5, 94)], [(6, 95)], [], [(8, 97)], [(9, 98)], [], [(11, 100)], [(12, 101)], [(13, 102)], [], [(15, 104)], [(16, 105)], [(17, 106)], [(18, 107)], [(14, 103), (19, 108)], [], [(21, 110)], [(22, 111)], [(3, 92), (7, 96), (10, 99), (20, 109), (23, 112)], [(24, 113)], [(25, 114)], [(26, 115)]] (by kernel_rfl) (by rw [S.size]; kernel_rfl) (by kernel_rfl) (by kernel_rfl) rfl ⟨(stab_rep hR), (stab_el hR), stab_I, stab_I, (stab_rep hR), (stab_el hR), stab_I, (stab_eqv _), (stab_rep hR), (stab_el hR), stab_I, (stab_rep hR), (stab_el hR), stab_I, stab_I, (stab_rep hR), (stab_el hR), stab_I, stab_I, stab_I, stab_I, (stab_rep hR), (stab_el hR), stab_I, (stab_rep hR), stab_S, (stab_eqv _), (stab_eqv _), trivial⟩ ?_ ?_
                ·
                  refine RunAll.cons (isRep (.sl (.int .u8)) (Kx K w.heap.size [some b_185, some b_166, some b_1]) x1) [] rfl rfl ?_ ?_
                  · intro W_ hW
                    have S1 := S
                    refine fill_nil S1 ?_; clear S1; intro a_ S1
                    replace R1 := R1.step hW
                    have S0 := S.defers; replace S := S1; clear S1
                    refine wl_pure (l' := [(89, v1), (88, .bool q_217), (11, .bool false), (1, v1)]) S tys tys_ok 1 (by kernel_rfl) ?_; clear S; intro a S
                    refine wpList_nil ?_
                    exact RPost.mk_ S rfl S0 R1 (Below.refl _ _)
                  refine RunAll.cons (isEl (.int .u8) (Kx K w.heap.size [some b_185, some b_166, some b_1]) y_226) [(isRep (.sl (.int .u8)) (Kx K w.heap.size [some b_185, some b_166, some b_1]) x1, 89)] rfl rfl ?_ ?_
                  · intro W_ hW
                    have S1 := S
                    intro v_271 hF_270; replace hF_270 : RepV _ _ _ _ _ := hF_270
                    replace S1 := S1.put (by decide : 89 < 129) (v_271)
                    refine fill_nil S1 ?_; clear S1; intro a_ S1
                    have S0 := S.defers; replace S := S1; clear S1
                    refine w_go S rfl (op_indexAddr S rfl ty23 rfl rfl rfl hF_270 rfl ey_226 ?_)
                    clear S; intro a p_272 R_273 H_274 S
                    refine wpList_nil ?_
                    exact RPost.mk_ S rfl S0 ⟨_, rfl, R_273, H_274⟩ (Below.refl _ _)
                  refine RunAll.cons (isI .u8 y_226) [(isEl (.int .u8) (Kx K w.heap.size [some b_185, some b_166, some b_1]) y_226, 90)] rfl rfl ?_ ?_
                  · intro W_ hW
                    have S1 := S
                    rintro _ ⟨p_277, rfl, R_278, H_279⟩
                    replace S1 := S1.put (by decide : 90 < 129) (.pointer (some p_277))
                    refine fill_nil S1 ?_; clear S1; intro a_ S1
                    have S0 := S.defers; replace S := S1; clear S1
                    refine w_go S rfl (op_load (t := (.int .u8)) (x := y_226) S rfl ty5 rfl rfl rfl R_278 ?_)
                    clear S; intro a v_280 R_281 S
                    obtain ⟨rfl, GR_281⟩ := RepV.int R_281
                    refine wpList_nil ?_
                    exact RPost.mk_ S rfl S0 ⟨rfl, GR_281⟩ (Below.refl _ _)
                  refine RunAll.cons (isI .u8 x_232) [(isI .u8 y_226, 91)] rfl rfl ?_ ?_
                  · intro W_ hW
                    have S1 := S
                    rintro _ ⟨rfl, hF_282⟩
                    replace S1 := S1.put (by decide : 91 < 129) (.int .u8 y_226)
                    refine fill_nil S1 ?_; clear S1; intro a_ S1
                    have S0 := S.defers; replace S := S1; clear S1
                    refine w_go S rfl (op_rem S .u8 rfl rfl rfl rfl rfl ex_232 ?_)
                    clear S; intro a S
                    refine wpList_nil ?_
                    exact RPost.mk_ S rfl S0 ⟨rfl, (inR_rem ex_232)⟩ (Below.refl _ _)
                  refine RunAll.cons (isRep (.sl (.int .u8)) (Kx K w.heap.size [some b_185, some b_166, some b_1]) x1) [] rfl rfl ?_ ?_
                  · intro W_ hW
                    have S1 := S
                    refine fill_nil S1 ?_; clear S1; intro a_ S1
                    replace R1 := R1.step hW
                    have S0 := S.defers; replace S := S1; clear S1
                    refine wl_pure (l' := [(93, v1), (88, .bool q_217), (11, .bool false), (1, v1)]) S tys tys_ok 1 (by kernel_rfl) ?_; clear S; intro a S
                    refine wpList_nil ?_
                    exact RPost.mk_ S rfl S0 R1 (Below.refl _ _)
                  refine RunAll.cons (isEl (.int .u8) (Kx K w.heap.size [some b_185, some b_166, some b_1]) y_233) [(isRep (.sl (.int .u8)) (Kx K w.heap.size [some b_185, some b_166, some b_1]) x1, 93)] rfl rfl ?_ ?_
                  · intro W_ hW
                    have S1 := S
                    intro v_285 hF_284; replace hF_284 : RepV _ _ _ _ _ := hF_284
                    replace S1 := S1.put (by decide : 93 < 129) (v_285)
                    refine fill_nil S1 ?_; clear S1; intro a_ S1
                    have S0 := S.defers; replace S := S1; clear S1
                    refine w_go S rfl (op_indexAddr S rfl ty23 rfl rfl rfl hF_284 rfl ey_233 ?_)
                    clear S; intro a p_286 R_287 H_288 S
                    refine wpList_nil ?_
                    exact RPost.mk_ S rfl S0 ⟨_, rfl, R_287, H_288⟩ (Below.refl _ _)
                  refine RunAll.cons (isI .u8 y_233) [(isEl (.int .u8) (Kx K w.heap.size [some b_185, some b_166, some b_1]) y_233, 94)] rfl rfl ?_ ?_
                  · intro W_ hW
                    have S1 := S
                    rintro _ ⟨p_291, rfl, R_292, H_293⟩
                    replace S1 := S1.put (by decide : 94 < 129) (.pointer (some p_291))
                    refine fill_nil S1 ?_; clear S1; intro a_ S1
                    have S0 := S.defers; replace S := S1; clear S1
                    refine w_go S rfl (op_load (t := (.int .u8)) (x := y_233) S rfl ty5 rfl rfl rfl R_292 ?_)
                    clear S; intro a v_294 R_295 S
                    obtain ⟨rfl, GR_295⟩ := RepV.int R_295
                    refine wpList_nil ?_
                    exact RPost.mk_ S rfl S0 ⟨rfl, GR_295⟩ (Below.refl _ _)
                  refine RunAll.cons (eqv (.bool (decide (y_233 > 127)))) [(isI .u8 y_233, 95)] rfl rfl ?_ ?_
                  · intro W_ hW
                    have S1 := S
                    rintro _ ⟨rfl, hF_296⟩
                    replace S1 := S1.put (by decide : 95 < 129) (.int .u8 y_233)
                    refine fill_nil S1 ?_; clear S1; intro a_ S1
                    have S0 := S.defers; replace S := S1; clear S1
                    refine wl_pure (l' := [(96, .bool (decide (y_233 > 127))), (95, .int .u8 y_233), (88, .bool q_217), (11, .bool false), (1, v1)]) S tys tys_ok 1 (by kernel_rfl) ?_; clear S; intro a S
                    refine wpList_nil ?_
                    exact RPost.mk_ S rfl S0 rfl (Below.refl _ _)
                  refine RunAll.cons (isRep (.sl (.int .u8)) (Kx K w.heap.size [some b_185, some b_166, some b_1]) x1) [] rfl rfl ?_ ?_
                  · intro W_ hW
                    have S1 := S
                    refine fill_nil S1 ?_; clear S1; intro a_ S1
                    replace R1 := R1.step hW
                    have S0 := S.defers; replace S := S1; clear S1
                    refine wl_pure (l' := [(97, v1), (88, .bool q_217), (11, .bool false), (1, v1)]) S tys tys_ok 1 (by kernel_rfl) ?_; clear S; intro a S
                    refine wpList_nil ?_
                    exact RPost.mk_ S rfl S0 R1 (Below.refl _ _)
                  refine RunAll.cons (isEl (.int .u8) (Kx K w.heap.size [some b_185, some b_166, some b_1]) y_239) [(isRep (.sl (.int .u8)) (Kx K w.heap.size [some b_185, some b_166, some b_1]) x1, 97)] rfl rfl ?_ ?_
                  · intro W_ hW
                    have S1 := S
                    intro v_299 hF_298; replace hF_298 : RepV _ _ _ _ _ := hF_298
                    replace S1 := S1.put (by decide : 97 < 129) (v_299)
                    refine fill_nil S1 ?_; clear S1; intro a_ S1
                    have S0 := S.defers; replace S := S1; clear S1
                    refine w_go S rfl (op_indexAddr S rfl ty23 rfl rfl rfl hF_298 rfl ey_239 ?_)
                    clear S; intro a p_300 R_301 H_302 S
                    refine wpList_nil ?_
                    exact RPost.mk_ S rfl S0 ⟨_, rfl, R_301, H_302⟩ (Below.refl _ _)
                  refine RunAll.cons (isI .u8 y_239) [(isEl (.int .u8) (Kx K w.heap.size [some b_185, some b_166, some b_1]) y_239, 98)] rfl rfl ?_ ?_
                  · intro W_ hW
                    have S1 := S
                    rintro _ ⟨p_305, rfl, R_306, H_307⟩
                    replace S1 := S1.put (by decide : 98 < 129) (.pointer (some p_305))
                    refine fill_nil S1 ?_; clear S1; intro a_ S1
                    have S0 := S.defers; replace S := S1; clear S1
                    refine w_go S rfl (op_load (t := (.int .u8)) (x := y_239) S rfl ty5 rfl rfl rfl R_306 ?_)
                    clear S; intro a v_308 R_309 S
                    obtain ⟨rfl, GR_309⟩ := RepV.int R_309
                    refine wpList_nil ?_
                    exact RPost.mk_ S rfl S0 ⟨rfl, GR_309⟩ (Below.refl _ _)
                  refine RunAll.cons (isRep (.sl (.int .u8)) (Kx K w.heap.size [some b_185, some b_166, some b_1]) x1) [] rfl rfl ?_ ?_
                  · intro W_ hW
                    have S1 := S
                    refine fill_nil S1 ?_; clear S1; intro a_ S1
                    replace R1 := R1.step hW
                    have S0 := S.defers; replace S := S1; clear S1
                    refine wl_pure (l' := [(100, v1), (88, .bool q_217), (11, .bool false), (1, v1)]) S tys tys_ok 1 (by kernel_rfl) ?_; clear S; intro a S
                    refine wpList_nil ?_
                    exact RPost.mk_ S rfl S0 R1 (Below.refl _ _)
                  refine RunAll.cons (isEl (.int .u8) (Kx K w.heap.size [some b_185, some b_166, some b_1]) y_245) [(isRep (.sl (.int .u8)) (Kx K w.heap.size [some b_185, some b_166, some b_1]) x1, 100)] rfl rfl ?_ ?_
                  · intro W_ hW
                    have S1 := S
                    intro v_311 hF_310; replace hF_310 : RepV _ _ _ _ _ := hF_310
                    replace S1 := S1.put (by decide : 100 < 129) (v_311)
                    refine fill_nil S1 ?_; clear S1; intro a_ S1
                    have S0 := S.defers; replace S := S1; clear S1
                    refine w_go S rfl (op_indexAddr S rfl ty23 rfl rfl rfl hF_310 rfl ey_245 ?_)
                    clear S; intro a p_312 R_313 H_314 S
                    refine wpList_nil ?_
                    exact RPost.mk_ S rfl S0 ⟨_, rfl, R_313, H_314⟩ (Below.refl _ _)
                  refine RunAll.cons (isI .u8 y_245) [(isEl (.int .u8) (Kx K w.heap.size [some b_185, some b_166, some b_1]) y_245, 101)] rfl rfl ?_ ?_
                  · intro W_ hW
                    have S1 := S
                    rintro _ ⟨p_317, rfl, R_318, H_319⟩
                    replace S1 := S1.put (by decide : 101 < 129) (.pointer (some p_317))
                    refine fill_nil S1 ?_; clear S1; intro a_ S1
                    have S0 := S.defers; replace S := S1; clear S1
                    refine w_go S rfl (op_load (t := (.int .u8)) (x := y_245) S rfl ty5 rfl rfl rfl R_318 ?_)
                    clear S; intro a v_320 R_321 S
                    obtain ⟨rfl, GR_321⟩ := RepV.int R_321
                    refine wpList_nil ?_
                    exact RPost.mk_ S rfl S0 ⟨rfl, GR_321⟩ (Below.refl _ _)
                  refine RunAll.cons (isI .u16 y_245) [(isI .u8 y_245, 102)] rfl rfl ?_ ?_
                  · intro W_ hW
                    have S1 := S
                    rintro _ ⟨rfl, hF_322⟩
                    replace S1 := S1.put (by decide : 102 < 129) (.int .u8 y_245)
                    refine fill_nil S1 ?_; clear S1; intro a_ S1
                    replace W := W.step hW
                    have S0 := S.defers; replace S := S1; clear S1
                    refine w_go S rfl (op_conv S .u16 .bool .bool rfl ty5 ty33 rfl rfl rfl (widen hF_322 (by decide)).1 ?_)
                    clear S; intro a S
                    refine wpList_nil ?_
                    exact RPost.mk_ S rfl S0 ⟨rfl, (widen hF_322 (by decide)).2⟩ (Below.refl _ _)
                  refine RunAll.cons (isRep (.sl (.int .u8)) (Kx K w.heap.size [some b_185, some b_166, some b_1]) x1) [] rfl rfl ?_ ?_
                  · intro W_ hW
                    have S1 := S
                    refine fill_nil S1 ?_; clear S1; intro a_ S1
                    replace R1 := R1.step hW
                    have S0 := S.defers; replace S := S1; clear S1
                    refine wl_pure (l' := [(104, v1), (88, .bool q_217), (11, .bool false), (1, v1)]) S tys tys_ok 1 (by kernel_rfl) ?_; clear S; intro a S
                    refine wpList_nil ?_
                    exact RPost.mk_ S rfl S0 R1 (Below.refl _ _)
                  refine RunAll.cons (isEl (.int .u8) (Kx K w.heap.size [some b_185, some b_166, some b_1]) y_251) [(isRep (.sl (.int .u8)) (Kx K w.heap.size [some b_185, some b_166, some b_1]) x1, 104)] rfl rfl ?_ ?_
                  · intro W_ hW
                    have S1 := S
                    intro v_325 hF_324; replace hF_324 : RepV _ _ _ _ _ := hF_324
                    replace S1 := S1.put (by decide : 104 < 129) (v_325)
                    refine fill_nil S1 ?_; clear S1; intro a_ S1
                    have S0 := S.defers; replace S := S1; clear S1
                    refine w_go S rfl (op_indexAddr S rfl ty23 rfl rfl rfl hF_324 rfl ey_251 ?_)
                    clear S; intro a p_326 R_327 H_328 S
                    refine wpList_nil ?_
                    exact RPost.mk_ S rfl S0 ⟨_, rfl, R_327, H_328⟩ (Below.refl _ _)
                  refine RunAll.cons (isI .u8 y_251) [(isEl (.int .u8) (Kx K w.heap.size [some b_185, some b_166, some b_1]) y_251, 105)] rfl rfl ?_ ?_
                  · intro W_ hW
                    have S1 := S
                    rintro _ ⟨p_331, rfl, R_332, H_333⟩
                    replace S1 := S1.put (by decide : 105 < 129) (.pointer (some p_331))
                    refine fill_nil S1 ?_; clear S1; intro a_ S1
                    have S0 := S.defers; replace S := S1; clear S1
                    refine w_go S rfl (op_load (t := (.int .u8)) (x := y_251) S rfl ty5 rfl rfl rfl R_332 ?_)
                    clear S; intro a v_334 R_335 S
                    obtain ⟨rfl, GR_335⟩ := RepV.int R_335
                    refine wpList_nil ?_
                    exact RPost.mk_ S rfl S0 ⟨rfl, GR_335⟩ (Below.refl _ _)
                  refine RunAll.cons (isI .u16 y_251) [(isI .u8 y_251, 106)] rfl rfl ?_ ?_
                  · intro W_ hW
                    have S1 := S
                    rintro _ ⟨rfl, hF_336⟩
                    replace S1 := S1.put (by decide : 106 < 129) (.int .u8 y_251)
                    refine fill_nil S1 ?_; clear S1; intro a_ S1
                    replace W := W.step hW
                    have S0 := S.defers; replace S := S1; clear S1
                    refine w_go S rfl (op_conv S .u16 .bool .bool rfl ty5 ty33 rfl rfl rfl (widen hF_336 (by decide)).1 ?_)
                    clear S; intro a S
                    refine wpList_nil ?_
                    exact RPost.mk_ S rfl S0 ⟨rfl, (widen hF_336 (by decide)).2⟩ (Below.refl _ _)
                  refine RunAll.cons (isI .u16 (IntKind.wrap .u16 (256 * y_251))) [(isI .u16 y_251, 107)] rfl rfl ?_ ?_
                  · intro W_ hW
                    have S1 := S
                    rintro _ ⟨rfl, hF_338⟩
                    replace S1 := S1.put (by decide : 107 < 129) (.int .u16 y_251)
                    refine fill_nil S1 ?_; clear S1; intro a_ S1
                    have S0 := S.defers; replace S := S1; clear S1
                    refine wl_pure (l' := [(108, .int .u16 (IntKind.wrap .u16 (256 * y_251))), (107, .int .u16 y_251), (88, .bool q_217), (11, .bool false), (1, v1)]) S tys tys_ok 1 (by kernel_rfl) ?_; clear S; intro a S
                    refine wpList_nil ?_
                    exact RPost.mk_ S rfl S0 ⟨rfl, (inR_wrap _ _)⟩ (Below.refl _ _)
                  refine RunAll.cons (isI .u16 (IntKind.wrap .u16 (y_245 + (IntKind.wrap .u16 (256 * y_251))))) [(isI .u16 y_245, 103), (isI .u16 (IntKind.wrap .u16 (256 * y_251)), 108)] rfl rfl ?_ ?_
                  · intro W_ hW
                    have S1 := S
                    rintro _ ⟨rfl, hF_340⟩
                    replace S1 := S1.put (by decide : 103 < 129) (.int .u16 y_245)
                    rintro _ ⟨rfl, hF_342⟩
                    replace S1 := S1.put (by decide : 108 < 129) (.int .u16 (IntKind.wrap .u16 (256 * y_251)))
                    refine fill_nil S1 ?_; clear S1; intro a_ S1
                    have S0 := S.defers; replace S := S1; clear S1
                    refine wl_pure (l' := [(109, .int .u16 (IntKind.wrap .u16 (y_245 + (IntKind.wrap .u16 (256 * y_251))))), (108, .int .u16 (IntKind.wrap .u16 (256 * y_251))), (103, .int .u16 y_245), (88, .bool q_217), (11, .bool false), (1, v1)]) S tys tys_ok 1 (by kernel_rfl) ?_; clear S; intro a S
                    refine wpList_nil ?_
                    exact RPost.mk_ S rfl S0 ⟨rfl, (inR_wrap _ _)⟩ (Below.refl _ _)
                  refine RunAll.cons (isRep (.sl (.int .u8)) (Kx K w.heap.size [some b_185, some b_166, some b_1]) x1) [] rfl rfl ?_ ?_
                  · intro W_ hW
                    have S1 := S
                    refine fill_nil S1 ?_; clear S1; intro a_ S1
                    replace R1 := R1.step hW
                    have S0 := S.defers; replace S := S1; clear S1
                    refine wl_pure (l' := [(110, v1), (88, .bool q_217), (11, .bool false), (1, v1)]) S tys tys_ok 1 (by kernel_rfl) ?_; clear S; intro a S
                    refine wpList_nil ?_
                    exact RPost.mk_ S rfl S0 R1 (Below.refl _ _)
                  refine RunAll.cons (isEl (.int .u8) (Kx K w.heap.size [some b_185, some b_166, some b_1]) y_257) [(isRep (.sl (.int .u8)) (Kx K w.heap.size [some b_185, some b_166, some b_1]) x1, 110)] rfl rfl ?_ ?_
                  · intro W_ hW
                    have S1 := S
                    intro v_345 hF_344; replace hF_344 : RepV _ _ _ _ _ := hF_344
                    replace S1 := S1.put (by decide : 110 < 129) (v_345)
                    refine fill_nil S1 ?_; clear S1; intro a_ S1
                    have S0 := S.defers; replace S := S1; clear S1
                    refine w_go S rfl (op_indexAddr S rfl ty23 rfl rfl rfl hF_344 rfl ey_257 ?_)
                    clear S; intro a p_346 R_347 H_348 S
                    refine wpList_nil ?_
                    exact RPost.mk_ S rfl S0 ⟨_, rfl, R_347, H_348⟩ (Below.refl _ _)
                  refine RunAll.cons (isI .u8 y_257) [(isEl (.int .u8) (Kx K w.heap.size [some b_185, some b_166, some b_1]) y_257, 111)] rfl rfl ?_ ?_
                  · intro W_ hW
                    have S1 := S
                    rintro _ ⟨p_351, rfl, R_352, H_353⟩
                    replace S1 := S1.put (by decide : 111 < 129) (.pointer (some p_351))
                    refine fill_nil S1 ?_; clear S1; intro a_ S1
                    have S0 := S.defers; replace S := S1; clear S1
                    refine w_go S rfl (op_load (t := (.int .u8)) (x := y_257) S rfl ty5 rfl rfl rfl R_352 ?_)
                    clear S; intro a v_354 R_355 S
                    obtain ⟨rfl, GR_355⟩ := RepV.int R_355
                    refine wpList_nil ?_
                    exact RPost.mk_ S rfl S0 ⟨rfl, GR_355⟩ (Below.refl _ _)
                  refine RunAll.cons (isRep (.st (.pair (.int .u8) (.pair .bool (.pair (.int .u8) (.pair (.int .u16) (.int .u8)))))) (Kx K w.heap.size [some b_185, some b_166, some b_1]) (x_232, (decide (y_233 > 127)), y_239, IntKind.wrap .u16 (y_245 + (IntKind.wrap .u16 (256 * y_251))), y_257)) [(isI .u8 x_232, 92), (eqv (.bool (decide (y_233 > 127))), 96), (isI .u8 y_239, 99), (isI .u16 (IntKind.wrap .u16 (y_245 + (IntKind.wrap .u16 (256 * y_251)))), 109), (isI .u8 y_257, 112)] rfl rfl ?_ ?_
                  · intro W_ hW
                    have S1 := S
                    rintro _ ⟨rfl, hF_356⟩
                    replace S1 := S1.put (by decide : 92 < 129) (.int .u8 x_232)
                    intro v_359 hF_358; obtain rfl : v_359 = .bool (decide (y_233 > 127)) := hF_358
                    replace S1 := S1.put (by decide : 96 < 129) (.bool (decide (y_233 > 127)))
                    rintro _ ⟨rfl, hF_360⟩
                    replace S1 := S1.put (by decide : 99 < 129) (.int .u8 y_239)
                    rintro _ ⟨rfl, hF_362⟩
                    replace S1 := S1.put (by decide : 109 < 129) (.int .u16 (IntKind.wrap .u16 (y_245 + (IntKind.wrap .u16 (256 * y_251)))))
                    rintro _ ⟨rfl, hF_364⟩
                    replace S1 := S1.put (by decide : 112 < 129) (.int .u8 y_257)
                    refine fill_nil S1 ?_; clear S1; intro a_ S1
                    have S0 := S.defers; replace S := S1; clear S1
                    refine w_go S rfl (op_build (K := (Kx K w.heap.size [some b_185, some b_166, some b_1])) (f := (.pair (.int .u8) (.pair .bool (.pair (.int .u8) (.pair (.int .u16) (.int .u8)))))) (z0 := (0, false, 0, 0, 0)) (x := (x_232, (decide (y_233 > 127)), y_239, IntKind.wrap .u16 (y_245 + (IntKind.wrap .u16 (256 * y_251))), y_257)) (vs := [.int .u8 x_232, .bool (decide (y_233 > 127)), .int .u8 y_239, .int .u16 (IntKind.wrap .u16 (y_245 + (IntKind.wrap .u16 (256 * y_251)))), .int .u8 y_257]) S _ rfl ty35 z35 (fun w K => ⟨[.int .u8 0], [.bool false, .int .u8 0, .int .u16 0, .int .u8 0], rfl, ⟨rfl, by decide⟩, ⟨[.bool false], [.int .u8 0, .int .u16 0, .int .u8 0], rfl, rfl, ⟨[.int .u8 0], [.int .u16 0, .int .u8 0], rfl, ⟨rfl, by decide⟩, ⟨[.int .u16 0], [.int .u8 0], rfl, ⟨rfl, by decide⟩, ⟨rfl, by decide⟩⟩⟩⟩⟩) rfl rfl rfl [(0, .int .u8 x_232), (1, .bool (decide (y_233 > 127))), (2, .int .u8 y_239), (3, .int .u16 (IntKind.wrap .u16 (y_245 + (IntKind.wrap .u16 (256 * y_251))))), (4, .int .u8 y_257)] rfl ⟨_, (RepV.mkInt hF_356), rfl, rfl, ⟨_, RepV.mkBool, rfl, rfl, ⟨_, (RepV.mkInt hF_360), rfl, rfl, ⟨_, (RepV.mkInt hF_362), rfl, rfl, ⟨_, (RepV.mkInt hF_364), rfl, rfl, rfl⟩⟩⟩⟩⟩ ?_)
                    clear S; intro a v_366 R_367 S
                    refine wpList_nil ?_
                    exact RPost.mk_ S rfl S0 R_367 (Below.refl _ _)
                  refine RunAll.cons (isS t_265) [(isRep (.st (.pair (.int .u8) (.pair .bool (.pair (.int .u8) (.pair (.int .u16) (.int .u8)))))) (Kx K w.heap.size [some b_185, some b_166, some b_1]) (x_232, (decide (y_233 > 127)), y_239, IntKind.wrap .u16 (y_245 + (IntKind.wrap .u16 (256 * y_251))), y_257), 113)] rfl rfl ?_ ?_
                  · intro W_ hW
                    have S1 := S
                    intro v_369 hF_368; replace hF_368 : RepV _ _ _ _ _ := hF_368
                    replace S1 := S1.put (by decide : 113 < 129) (v_369)
                    refine fill_nil S1 ?_; clear S1; intro a_ S1
                    replace W := W.step hW
                    have S0 := S.defers; replace S := S1; clear S1
                    refine w_go S rfl (op_call (vs := [v_369]) S rfl cb13 rfl rfl rfl (c13 (Kx K w.heap.size [some b_185, some b_166, some b_1]) n W_ (x_232, (decide (y_233 > 127)), y_239, IntKind.wrap .u16 (y_245 + (IntKind.wrap .u16 (256 * y_251))), y_257) _ hF_368 et_265) ?_)
                    rintro _ w_373 ⟨v_370, rfl, R_371, hb_372⟩; refine ⟨_, rfl, ?_⟩
                    replace R_371 := RepV.back R_371 W
                    clear S; intro a S
                    obtain ⟨rfl, GR_371⟩ := RepV.str R_371
                    refine wpList_nil ?_
                    exact RPost.mk_ S rfl S0 ⟨rfl, GR_371⟩ (hb_372)
                  refine RunAll.cons (eqv (.bool (!(decide (t_265 = []))))) [(isS t_265, 114)] rfl rfl ?_ ?_
                  · intro W_ hW
                    have S1 := S
                    rintro _ ⟨rfl, hF_374⟩
                    replace S1 := S1.put (by decide : 114 < 129) (.string (strOfNums t_265))
                    refine fill_nil S1 ?_; clear S1; intro a_ S1
                    have S0 := S.defers; replace S := S1; clear S1
                    refine w_go S rfl (op_strne S rfl rfl rfl rfl (by kernel_rfl) (hF_374).1 ((strG ([]) (by decide) (by decide))).1 ?_)
                    clear S; intro a S
                    refine wpList_nil ?_
                    exact RPost.mk_ S rfl S0 rfl (Below.refl _ _)
                  refine RunAll.cons (eqv (.bool (!(decide (t_265 = []))))) [(eqv (.bool (!(decide (t_265 = [])))), 115)] rfl rfl ?_ ?_
                  · intro W_ hW
                    have S1 := S
                    intro v_377 hF_376; obtain rfl : v_377 = .bool (!(decide (t_265 = []))) := hF_376
                    replace S1 := S1.put (by decide : 115 < 129) (.bool (!(decide (t_265 = []))))
                    refine fill_nil S1 ?_; clear S1; intro a_ S1
                    have S0 := S.defers; replace S := S1; clear S1
                    refine wl_pure (l' := [(11, .bool (!(decide (t_265 = [])))), (115, .bool (!(decide (t_265 = [])))), (88, .bool q_217), (11, .bool false), (1, v1)]) S tys tys_ok 1 (by kernel_rfl) ?_; clear S; intro a S
                    refine wpList_nil ?_
                    exact RPost.mk_ S rfl S0 rfl (Below.refl _ _)
                  exact trivial
                intro w_378 hb_379
                refine EndE.some_ rfl ?_
                intro v_381 hF_380; replace hF_380 : RepV _ _ _ _ _ := hF_380
                replace S := S.put (by decide : 89 < 129) (v_381)
                refine EndE.some_ rfl ?_
                rintro _ ⟨p_384, rfl, R_385, H_386⟩
                replace S := S.put (by decide : 90 < 129) (.pointer (some p_384))
                refine EndE.some_ rfl ?_
                rintro _ ⟨rfl, hF_387⟩
                replace S := S.put (by decide : 91 < 129) (.int .u8 y_226)
                refine EndE.some_ rfl ?_
                rintro _ ⟨rfl, hF_389⟩
                replace S := S.put (by decide : 92 < 129) (.int .u8 x_232)
                refine EndE.some_ rfl ?_
                intro v_392 hF_391; replace hF_391 : RepV _ _ _ _ _ := hF_391
                replace S := S.put (by decide : 93 < 129) (v_392)
                refine EndE.some_ rfl ?_
                rintro _ ⟨p_395, rfl, R_396, H_397⟩
                replace S := S.put (by decide : 94 < 129) (.pointer (some p_395))
                refine EndE.some_ rfl ?_
                rintro _ ⟨rfl, hF_398⟩
                replace S := S.put (by decide : 95 < 129) (.int .u8 y_233)
                refine EndE.some_ rfl ?_
                intro v_401 hF_400; obtain rfl : v_401 = .bool (decide (y_233 > 127)) := hF_400
                replace S := S.put (by decide : 96 < 129) (.bool (decide (y_233 > 127)))
                refine EndE.some_ rfl ?_
                intro v_403 hF_402; replace hF_402 : RepV _ _ _ _ _ := hF_402
                replace S := S.put (by decide : 97 < 129) (v_403)
                refine EndE.some_ rfl ?_
                rintro _ ⟨p_406, rfl, R_407, H_408⟩
                replace S := S.put (by decide : 98 < 129) (.pointer (some p_406))
                refine EndE.some_ rfl ?_
                rintro _ ⟨rfl, hF_409⟩
                replace S := S.put (by decide : 99 < 129) (.int .u8 y_239)
                refine EndE.some_ rfl ?_
                intro v_412 hF_411; replace hF_411 : RepV _ _ _ _ _ := hF_411
                replace S := S.put (by decide : 100 < 129) (v_412)
                refine EndE.some_ rfl ?_
                rintro _ ⟨p_415, rfl, R_416, H_417⟩
                replace S := S.put (by decide : 101 < 129) (.pointer (some p_415))
                refine EndE.some_ rfl ?_
                rintro _ ⟨rfl, hF_418⟩
                replace S := S.put (by decide : 102 < 129) (.int .u8 y_245)
                refine EndE.some_ rfl ?_
                rintro _ ⟨rfl, hF_420⟩
                replace S := S.put (by decide : 103 < 129) (.int .u16 y_245)
                refine EndE.some_ rfl ?_
                intro v_423 hF_422; replace hF_422 : RepV _ _ _ _ _ := hF_422
                replace S := S.put (by decide : 104 < 129) (v_423)
                refine EndE.some_ rfl ?_
                rintro _ ⟨p_426, rfl, R_427, H_428⟩
                replace S := S.put (by decide : 105 < 129) (.pointer (some p_426))
                refine EndE.some_ rfl ?_
                rintro _ ⟨rfl, hF_429⟩
                replace S := S.put (by decide : 106 < 129) (.int .u8 y_251)
                refine EndE.some_ rfl ?_
                rintro _ ⟨rfl, hF_431⟩
                replace S := S.put (by decide : 107 < 129) (.int .u16 y_251)
                refine EndE.some_ rfl ?_
                rintro _ ⟨rfl, hF_433⟩
                replace S := S.put (by decide : 108 < 129) (.int .u16 (IntKind.wrap .u16 (256 * y_251)))
                refine EndE.some_ rfl ?_
                rintro _ ⟨rfl, hF_435⟩
                replace S := S.put (by decide : 109 < 129) (.int .u16 (IntKind.wrap .u16 (y_245 + (IntKind.wrap .u16 (256 * y_251)))))
                refine EndE.some_ rfl ?_
                intro v_438 hF_437; replace hF_437 : RepV _ _ _ _ _ := hF_437
                replace S := S.put (by decide : 110 < 129) (v_438)
                refine EndE.some_ rfl ?_
                rintro _ ⟨p_441, rfl, R_442, H_443⟩
                replace S := S.put (by decide : 111 < 129) (.pointer (some p_441))
                refine EndE.some_ rfl ?_
                rintro _ ⟨rfl, hF_444⟩
                replace S := S.put (by decide : 112 < 129) (.int .u8 y_257)
                refine EndE.some_ rfl ?_
                intro v_447 hF_446; replace hF_446 : RepV _ _ _ _ _ := hF_446
                replace S := S.put (by decide : 113 < 129) (v_447)
                refine EndE.some_ rfl ?_
                rintro _ ⟨rfl, hF_448⟩
                replace S := S.put (by decide : 114 < 129) (.string (strOfNums t_265))
                refine EndE.some_ rfl ?_
                intro v_451 hF_450; obtain rfl : v_451 = .bool (!(decide (t_265 = []))) := hF_450
                replace S := S.put (by decide : 115 < 129) (.bool (!(decide (t_265 = []))))
                refine EndE.some_ rfl ?_
                intro v_453 hF_452; obtain rfl : v_453 = .bool (!(decide (t_265 = []))) := hF_452
                replace S := S.put (by decide : 11 < 129) (.bool (!(decide (t_265 = []))))
                refine endE_nil S ?_; clear S; intro a S
                replace R1 := R1.step hb_379
                replace B_2 := B_2.step hb_379
                replace B_167 := B_167.step hb_379
                replace B_186 := B_186.step hb_379
                replace W := W.step hb_379
                refine then_n ?_
                obtain rfl := Option.some.inj ej_225
                exact ⟨S.sub (by exact ⟨rfl, trivial⟩), W, B_2, B_167, B_186⟩
              · intro hc
                rw [if_neg (Bool.eq_false_iff.1 hc)] at ej_225
                refine wp_skip ?_
                refine then_n ?_
                obtain rfl := Option.some.inj ej_225
                exact ⟨S.sub (by exact ⟨rfl, trivial⟩), W, B_2, B_167, B_186⟩
            clear S W; rintro a w_454 ⟨S, W, B_2, B_167, B_186⟩
            refine then_n ?_
            refine wp_seq ?_
            refine wp_region_lit ?_
            refine wl_pure (l' := [(118, .bool (!j_225)), (117, .bool (!j_225)), (116, .bool j_225), (11, .bool j_225)]) S tys tys_ok 3 (by kernel_rfl) ?_
            clear S; intro a S
            obtain ⟨q_455, eq_455, h⟩ := bindS h
            refine seg 2 (fun a_ w_ => St 129 a_ [(120, .bool q_455)] ∧ Wd w w_ [some b_185, some b_166, some b_1] ∧ Bx (.st (.pair (.int .u8) (.pair .bool (.pair (.int .u8) (.pair (.int .u16) (.int .u8)))))) 35 w_ (Kx K w.heap.size [some b_185, some b_166, some b_1]) b_1 x0 ∧ Bx (.st (.pair (.int .u8) (.pair .bool (.pair (.int .u8) (.pair (.int .u16) (.int .u8)))))) 35 w_ (Kx K w.heap.size [some b_185, some b_166, some b_1]) b_166 t_159.1 ∧ Bx (.st (.pair (.int .u8) (.pair .bool (.pair (.int .u8) (.pair (.int .u16) (.int .u8)))))) 35 w_ (Kx K w.heap.size [some b_185, some b_166, some b_1]) b_185 t_178.1) ?_ ?_
            · by_cases hc : (!j_225) = true
              · rw [if_pos hc] at eq_455; rw [hc] at S
                obtain ⟨t_456, et_456, eq_455⟩ := bindS eq_455
                refine w_go S rfl (op_call (vs := []) S rfl cb11 rfl rfl rfl (c11 (Kx K w.heap.size [some b_185, some b_166, some b_1]) n w_454  et_456) ?_)
                rintro _ w_460 ⟨v_457, rfl, R_458, hb_459⟩; refine ⟨_, rfl, ?_⟩
                replace R_458 := RepV.back R_458 W
                clear S; intro a S
                replace B_2 := B_2.step hb_459
                replace B_167 := B_167.step hb_459
                replace B_186 := B_186.step hb_459
                replace W := W.step hb_459
                obtain rfl := RepV.bool R_458
                refine wl_pure (l' := [(120, .bool t_456), (119, .bool t_456), (118, .bool true), (117, .bool true), (116, .bool j_225), (11, .bool j_225)]) S tys tys_ok 1 (by kernel_rfl) ?_
                clear S; intro a S
                obtain rfl := Option.some.inj eq_455
                exact ⟨S.sub (by exact ⟨rfl, trivial⟩), W, B_2, B_167, B_186⟩
              · rw [if_neg hc] at eq_455; rw [show (!j_225) = false from Bool.eq_false_iff.2 hc] at S
                refine wl_pure (l' := [(120, .bool false), (119, undef), (118, .bool false), (117, .bool false), (116, .bool j_225), (11, .bool j_225)]) S tys tys_ok 2 (by kernel_rfl) ?_
                clear S; intro a S
                obtain rfl := Option.some.inj eq_455
                exact ⟨S.sub (by exact ⟨rfl, trivial⟩), W, B_2, B_167, B_186⟩
            clear S W eq_455; rintro a w_461 ⟨S, W, B_2, B_167, B_186⟩
            refine wl_pure (l' := [(4, .bool q_455), (120, .bool q_455)]) S tys tys_ok 1 (by kernel_rfl) ?_
            clear S; intro a S
            refine wpList_nil ?_
            refine then_n ?_
            replace S := S.sub (l' := [(4, .bool q_455)]) (by exact ⟨rfl, trivial⟩)
            refine wp_ret ?_
            refine then_r ?_
            obtain rfl := Option.some.inj h
            exact b_ret1 S rfl rfl ⟨_, rfl, RepV.mkBool, W.below⟩
        · intro hc
          rw [if_neg (Bool.eq_false_iff.1 hc)] at h
          refine wp_skip ?_
          refine then_n ?_
          replace S := S.sub (l' := [(9, .pointer (some (⟨b_185, 0, .none⟩ : Addr))), (1, v1)]) (by exact ⟨rfl, rfl, trivial⟩)
          refine wp_seq ?_
          obtain ⟨t_464, et_464, h⟩ := bindS h
          obtain ⟨q_469, eq_469, h⟩ := bindS h
          obtain ⟨t_471, HG_470⟩ : ∃ (t_471 : (Bool)) , ((decide (t_464 = x1.xs)) = true → (p11 n) = some t_471 ∧ t_471 = q_469) ∧ (¬ (decide (t_464 = x1.xs)) = true → false = q_469) := by
            by_cases hc : (decide (t_464 = x1.xs)) = true
            · rw [if_pos hc] at eq_469
              obtain ⟨t_471, et_471, eq_469⟩ := bindS eq_469
              exact ⟨t_471, ⟨fun _ => ⟨et_471, Option.some.inj eq_469⟩, fun k_ => absurd hc k_⟩⟩
            · rw [if_neg hc] at eq_469
              exact ⟨default, ⟨fun k_ => absurd k_ hc, fun _ => Option.some.inj eq_469⟩⟩
          have hR : Rel (Kx K w.heap.size [some b_185, some b_166, some b_1]) Bl := Bl.rel _
          refine wp_region_all hR [isRep (.st (.pair (.int .u8) (.pair .bool (.pair (.int .u8) (.pair (.int .u16) (.int .u8)))))) (Kx K w.heap.size [some b_185, some b_166, some b_1]) t_178.1, isS t_464, isRep (.sl (.int .u8)) (Kx K w.heap.size [some b_185, some b_166, some b_1]) x1, isS x1.xs, eqv (.bool (decide (t_464 = x1.xs))), eqv (.bool (decide (t_464 = x1.xs))), cndF (decide (t_464 = x1.xs)) true (eqv (.bool t_471)), eqv (.bool q_469), eqv (.bool q_469)] [[], [(0, 121)], [], [(2, 123)], [(1, 122), (3, 124)], [(4, 125)], [(5, 126)], [(5, 126), (6, 127)], [(7, 128)]] (by kernel_rfl) (by rw [S.size]; kernel_rfl) (by kernel_rfl) (by kernel_rfl) rfl ⟨(stab_rep hR), stab_S, (stab_rep hR), stab_S, (stab_eqv _), (stab_eqv _), (stab_cnd (stab_eqv _)), (stab_eqv _), (stab_eqv _), trivial⟩ ?_ ?_
          ·
            refine RunAll.cons (isRep (.st (.pair (.int .u8) (.pair .bool (.pair (.int .u8) (.pair (.int .u16) (.int .u8)))))) (Kx K w.heap.size [some b_185, some b_166, some b_1]) t_178.1) [] rfl rfl ?_ ?_
            · intro W_ hW
              have S1 := S
              refine fill_nil S1 ?_; clear S1; intro a_ S1
              replace B_186 := B_186.step hW
              have S0 := S.defers; replace S := S1; clear S1
              refine w_go S rfl (op_load (t := (.st (.pair (.int .u8) (.pair .bool (.pair (.int .u8) (.pair (.int .u16) (.int .u8))))))) (x := t_178.1) S rfl ty35 rfl rfl rfl B_186.at_ ?_)
              clear S; intro a v_476 R_477 S
              refine wpList_nil ?_
              exact RPost.mk_ S rfl S0 R_477 (Below.refl _ _)
            refine RunAll.cons (isS t_464) [(isRep (.st (.pair (.int .u8) (.pair .bool (.pair (.int .u8) (.pair (.int .u16) (.int .u8)))))) (Kx K w.heap.size [some b_185, some b_166, some b_1]) t_178.1, 121)] rfl rfl ?_ ?_
            · intro W_ hW
              have S1 := S
              intro v_479 hF_478; replace hF_478 : RepV _ _ _ _ _ := hF_478
              replace S1 := S1.put (by decide : 121 < 129) (v_479)
              refine fill_nil S1 ?_; clear S1; intro a_ S1
              replace W := W.step hW
              have S0 := S.defers; replace S := S1; clear S1
              refine w_go S rfl (op_call (vs := [v_479]) S rfl cb13 rfl rfl rfl (c13 (Kx K w.heap.size [some b_185, some b_166, some b_1]) n W_ t_178.1 _ hF_478 et_464) ?_)
              rintro _ w_483 ⟨v_480, rfl, R_481, hb_482⟩; refine ⟨_, rfl, ?_⟩
              replace R_481 := RepV.back R_481 W
              clear S; intro a S
              obtain ⟨rfl, GR_481⟩ := RepV.str R_481
              refine wpList_nil ?_
              exact RPost.mk_ S rfl S0 ⟨rfl, GR_481⟩ (hb_482)
            refine RunAll.cons (isRep (.sl (.int .u8)) (Kx K w.heap.size [some b_185, some b_166, some b_1]) x1) [] rfl rfl ?_ ?_
            · intro W_ hW
              have S1 := S
              refine fill_nil S1 ?_; clear S1; intro a_ S1
              replace R1 := R1.step hW
              have S0 := S.defers; replace S := S1; clear S1
              refine wl_pure (l' := [(123, v1), (9, .pointer (some (⟨b_185, 0, .none⟩ : Addr))), (1, v1)]) S tys tys_ok 1 (by kernel_rfl) ?_; clear S; intro a S
              refine wpList_nil ?_
              exact RPost.mk_ S rfl S0 R1 (Below.refl _ _)
            refine RunAll.cons (isS x1.xs) [(isRep (.sl (.int .u8)) (Kx K w.heap.size [some b_185, some b_166, some b_1]) x1, 123)] rfl rfl ?_ ?_
            · intro W_ hW
              have S1 := S
              intro v_485 hF_484; replace hF_484 : RepV _ _ _ _ _ := hF_484
              replace S1 := S1.put (by decide : 123 < 129) (v_485)
              refine fill_nil S1 ?_; clear S1; intro a_ S1
              replace W := W.step hW
              have S0 := S.defers; replace S := S1; clear S1
              refine w_go S rfl (op_str (K := _) S rfl ty23 ty9 rfl rfl rfl hF_484 ?_)
              clear S; intro a S
              refine wpList_nil ?_
              exact RPost.mk_ S rfl S0 ⟨rfl, hF_484.byt⟩ (Below.refl _ _)
            refine RunAll.cons (eqv (.bool (decide (t_464 = x1.xs)))) [(isS t_464, 122), (isS x1.xs, 124)] rfl rfl ?_ ?_
            · intro W_ hW
              have S1 := S
              rintro _ ⟨rfl, hF_486⟩
              replace S1 := S1.put (by decide : 122 < 129) (.string (strOfNums t_464))
              rintro _ ⟨rfl, hF_488⟩
              replace S1 := S1.put (by decide : 124 < 129) (.string (strOfNums x1.xs))
              refine fill_nil S1 ?_; clear S1; intro a_ S1
              have S0 := S.defers; replace S := S1; clear S1
              refine w_go S rfl (op_streq S rfl rfl rfl rfl rfl (hF_486).1 (hF_488).1 ?_)
              clear S; intro a S
              refine wpList_nil ?_
              exact RPost.mk_ S rfl S0 rfl (Below.refl _ _)
            refine RunAll.cons (eqv (.bool (decide (t_464 = x1.xs)))) [(eqv (.bool (decide (t_464 = x1.xs))), 125)] rfl rfl ?_ ?_
            · intro W_ hW
              have S1 := S
              intro v_491 hF_490; obtain rfl : v_491 = .bool (decide (t_464 = x1.xs)) := hF_490
              replace S1 := S1.put (by decide : 125 < 129) (.bool (decide (t_464 = x1.xs)))
              refine fill_nil S1 ?_; clear S1; intro a_ S1
              have S0 := S.defers; replace S := S1; clear S1
              refine wl_pure (l' := [(126, .bool (decide (t_464 = x1.xs))), (125, .bool (decide (t_464 = x1.xs))), (9, .pointer (some (⟨b_185, 0, .none⟩ : Addr))), (1, v1)]) S tys tys_ok 1 (by kernel_rfl) ?_; clear S; intro a S
              refine wpList_nil ?_
              exact RPost.mk_ S rfl S0 rfl (Below.refl _ _)
            refine RunAll.cons (cndF (decide (t_464 = x1.xs)) true (eqv (.bool t_471))) [(eqv (.bool (decide (t_464 = x1.xs))), 126)] rfl rfl ?_ ?_
            · intro W_ hW
              by_cases hc0 : (decide (t_464 = x1.xs)) = true
              · have hl0 : (decide (t_464 = x1.xs)) = true := hc0
                have S1 := S
                intro v_493 hF_492; obtain rfl : v_493 = .bool (decide (t_464 = x1.xs)) := hF_492
                replace S1 := S1.put (by decide : 126 < 129) (.bool (decide (t_464 = x1.xs)))
                refine fill_nil S1 ?_; clear S1; intro a_ S1
                replace W := W.step hW
                rw [show (decide (t_464 = x1.xs)) = true from hl0] at S1
                have S0 := S.defers; replace S := S1; clear S1
                obtain ⟨et_471, _⟩ := (HG_470).1 hc0
                refine w_go S rfl (op_call (vs := []) S rfl cb11 rfl rfl rfl (c11 (Kx K w.heap.size [some b_185, some b_166, some b_1]) n W_  et_471) ?_)
                rintro _ w_497 ⟨v_494, rfl, R_495, hb_496⟩; refine ⟨_, rfl, ?_⟩
                replace R_495 := RepV.back R_495 W
                clear S; intro a S
                obtain rfl := RepV.bool R_495
                refine wpList_nil ?_
                exact RPost.mk_ S rfl S0 ⟨fun _ => rfl, fun k_ => absurd hc0 k_⟩ (hb_496)
              · have hl0 : (decide (t_464 = x1.xs)) = false := Bool.eq_false_iff.2 hc0
                have S1 := S
                intro v_499 hF_498; obtain rfl : v_499 = .bool (decide (t_464 = x1.xs)) := hF_498
                replace S1 := S1.put (by decide : 126 < 129) (.bool (decide (t_464 = x1.xs)))
                refine fill_nil S1 ?_; clear S1; intro a_ S1
                rw [show (decide (t_464 = x1.xs)) = false from hl0] at S1
                have S0 := S.defers; replace S := S1; clear S1
                refine wl_pure (l' := [(127, undef), (126, .bool false), (9, .pointer (some (⟨b_185, 0, .none⟩ : Addr))), (1, v1)]) S tys tys_ok 1 (by kernel_rfl) ?_; clear S; intro a S
                refine wpList_nil ?_
                exact RPost.mk_ S rfl S0 ⟨fun k_ => absurd k_ hc0, fun _ => rfl⟩ (Below.refl _ _)
            refine RunAll.cons (eqv (.bool q_469)) [(eqv (.bool (decide (t_464 = x1.xs))), 126), (cndF (decide (t_464 = x1.xs)) true (eqv (.bool t_471)), 127)] rfl rfl ?_ ?_
            · intro W_ hW
              by_cases hc0 : (decide (t_464 = x1.xs)) = true
              · have hl0 : (decide (t_464 = x1.xs)) = true := hc0
                have S1 := S
                intro v_501 hF_500; obtain rfl : v_501 = .bool (decide (t_464 = x1.xs)) := hF_500
                replace S1 := S1.put (by decide : 126 < 129) (.bool (decide (t_464 = x1.xs)))
                intro v_502 hF_503
                replace hF_503 := cndF.pos hF_503 hc0
                revert hF_503
                revert v_502
                intro v_505 hF_504; obtain rfl : v_505 = .bool t_471 := hF_504
                replace S1 := S1.put (by decide : 127 < 129) (.bool t_471)
                refine fill_nil S1 ?_; clear S1; intro a_ S1
                rw [show (decide (t_464 = x1.xs)) = true from hl0] at S1
                have S0 := S.defers; replace S := S1; clear S1
                refine wl_pure (l' := [(128, .bool t_471), (127, .bool t_471), (126, .bool true), (9, .pointer (some (⟨b_185, 0, .none⟩ : Addr))), (1, v1)]) S tys tys_ok 1 (by kernel_rfl) ?_; clear S; intro a S
                refine wpList_nil ?_
                exact RPost.mk_ S rfl S0 (congrArg Value.bool ((HG_470).1 hc0).2) (Below.refl _ _)
              · have hl0 : (decide (t_464 = x1.xs)) = false := Bool.eq_false_iff.2 hc0
                have S1 := S
                intro v_507 hF_506; obtain rfl : v_507 = .bool (decide (t_464 = x1.xs)) := hF_506
                replace S1 := S1.put (by decide : 126 < 129) (.bool (decide (t_464 = x1.xs)))
                intro v_508 hF_509
                obtain rfl := cndF.neg hF_509 hc0
                replace S1 := S1.put (by decide : 127 < 129) (undef)
                refine fill_nil S1 ?_; clear S1; intro a_ S1
                rw [show (decide (t_464 = x1.xs)) = false from hl0] at S1
                have S0 := S.defers; replace S := S1; clear S1
                refine wl_pure (l' := [(128, .bool false), (127, undef), (126, .bool false), (9, .pointer (some (⟨b_185, 0, .none⟩ : Addr))), (1, v1)]) S tys tys_ok 1 (by kernel_rfl) ?_; clear S; intro a S
                refine wpList_nil ?_
                exact RPost.mk_ S rfl S0 (congrArg Value.bool ((HG_470).2 hc0)) (Below.refl _ _)
            refine RunAll.cons (eqv (.bool q_469)) [(eqv (.bool q_469), 128)] rfl rfl ?_ ?_
            · intro W_ hW
              have S1 := S
              intro v_511 hF_510; obtain rfl : v_511 = .bool q_469 := hF_510
              replace S1 := S1.put (by decide : 128 < 129) (.bool q_469)
              refine fill_nil S1 ?_; clear S1; intro a_ S1
              have S0 := S.defers; replace S := S1; clear S1
              refine wl_pure (l' := [(4, .bool q_469), (128, .bool q_469), (9, .pointer (some (⟨b_185, 0, .none⟩ : Addr))), (1, v1)]) S tys tys_ok 1 (by kernel_rfl) ?_; clear S; intro a S
              refine wpList_nil ?_
              exact RPost.mk_ S rfl S0 rfl (Below.refl _ _)
            exact trivial
          intro w_512 hb_513
          refine EndE.some_ rfl ?_
          intro v_515 hF_514; replace hF_514 : RepV _ _ _ _ _ := hF_514
          replace S := S.put (by decide : 121 < 129) (v_515)
          refine EndE.some_ rfl ?_
          rintro _ ⟨rfl, hF_516⟩
          replace S := S.put (by decide : 122 < 129) (.string (strOfNums t_464))
          refine EndE.some_ rfl ?_
          intro v_519 hF_518; replace hF_518 : RepV _ _ _ _ _ := hF_518
          replace S := S.put (by decide : 123 < 129) (v_519)
          refine EndE.some_ rfl ?_
          rintro _ ⟨rfl, hF_520⟩
          replace S := S.put (by decide : 124 < 129) (.string (strOfNums x1.xs))
          refine EndE.some_ rfl ?_
          intro v_523 hF_522; obtain rfl : v_523 = .bool (decide (t_464 = x1.xs)) := hF_522
          replace S := S.put (by decide : 125 < 129) (.bool (decide (t_464 = x1.xs)))
          refine EndE.some_ rfl ?_
          intro v_525 hF_524; obtain rfl : v_525 = .bool (decide (t_464 = x1.xs)) := hF_524
          replace S := S.put (by decide : 126 < 129) (.bool (decide (t_464 = x1.xs)))
          refine EndE.some_ rfl ?_
          intro v_526 _
          replace S := S.put (by decide : 127 < 129) (v_526)
          refine EndE.some_ rfl ?_
          intro v_528 hF_527; obtain rfl : v_528 = .bool q_469 := hF_527
          replace S := S.put (by decide : 128 < 129) (.bool q_469)
          refine EndE.some_ rfl ?_
          intro v_530 hF_529; obtain rfl : v_530 = .bool q_469 := hF_529
          replace S := S.put (by decide : 4 < 129) (.bool q_469)
          refine endE_nil S ?_; clear S; intro a S
          replace R1 := R1.step hb_513
          replace B_2 := B_2.step hb_513
          replace B_167 := B_167.step hb_513
          replace B_186 := B_186.step hb_513
          replace W := W.step hb_513
          refine then_n ?_
          replace S := S.sub (l' := [(4, .bool q_469)]) (by exact ⟨rfl, trivial⟩)
          refine wp_ret ?_
          obtain rfl := Option.some.inj h
          exact b_ret1 S rfl rfl ⟨_, rfl, RepV.mkBool, W.below⟩

end Go.Proofs.Ytojifdijcanbpaa
