/- x. -/
import Derived.Test.YtlgalcekkffhnaaN2
set_option linter.unusedVariables false
set_option linter.unusedSimpArgs false
namespace Go.Proofs.Ytlgalcekkffhnaa
open Go.RowKit

def p14 (n : Nat) (x0 : Sl (Int)) (x1 : Int) : Option ((Int)) :=
  (idx x0.xs x1).bind fun y_1 =>
  (ckI .i64 (x1 + 1)).bind fun x_7 =>
  (idx x0.xs x_7).bind fun y_8 =>
  (ckI .i64 (256 * y_8)).bind fun x_14 =>
  (ckI .i64 (y_1 + x_14)).bind fun x_15 =>
  some x_15
set_option maxHeartbeats 4000000 in
set_option maxRecDepth 100000 in
/-- plugboard/plugboardlaw43.number -/
theorem c14 (K : Nat → Prop) (n : Nat) (w : World) (x0 : Sl (Int)) (v0 : Value) (R0 : RepV (.sl (.int .u8)) w K v0 x0) (x1 : Int) (G1 : InR .i64 x1) {r : (Int)} (h : p14 n x0 x1 = some r) :
    Calls Try.prog 14 #[v0, .int .i64 x1] w (Ret1 (.int .i64) w (Kx K w.heap.size []) r) := by
  refine enter (args := [v0, .int .i64 x1]) Try.func14 rfl 18 rfl rfl fun a S => ?_
  have W := Wd.start w
  replace R0 := R0.arg
  unfold p14 at h
  replace S : St 18 a [(0, v0), (1, .int .i64 x1)] := S
  refine wp_seq ?_
  refine wp_region_lit ?_
  refine wl_pure (l' := [(4, .int .i64 0), (0, v0), (1, .int .i64 x1)]) S tys tys_ok 1 (by kernel_rfl) ?_
  clear S; intro a S
  refine wpList_nil ?_
  refine then_n ?_
  replace S := S.sub (l' := [(0, v0), (1, .int .i64 x1)]) (by exact ⟨rfl, rfl, trivial⟩)
  refine wp_seq ?_
  obtain ⟨y_1, ey_1, h⟩ := bindS h
  obtain ⟨x_7, ex_7, h⟩ := bindS h
  obtain ⟨y_8, ey_8, h⟩ := bindS h
  obtain ⟨x_14, ex_14, h⟩ := bindS h
  obtain ⟨x_15, ex_15, h⟩ := bindS h
  have hR : Rel (Kx K w.heap.size []) Bl := Bl.rel _
  refine wp_region_all hR [isRep (.sl (.int .u8)) (Kx K w.heap.size []) x0, isI .i64 x1, isEl (.int .u8) (Kx K w.heap.size []) y_1, isI .u8 y_1, isI .i64 y_1, isRep (.sl (.int .u8)) (Kx K w.heap.size []) x0, isI .i64 x1, isI .i64 x_7, isEl (.int .u8) (Kx K w.heap.size []) y_8, isI .u8 y_8, isI .i64 y_8, isI .i64 x_14, isI .i64 x_15, isI .i64 x_15] [[], [], [(0, 5), (1, 6)], [(2, 7)], [(3, 8)], [], [], [(6, 11)], [(5, 10), (7, 12)], [(8, 13)], [(9, 14)], [(10, 15)], [(4, 9), (11, 16)], [(12, 17)]] (by kernel_rfl) (by rw [S.size]; kernel_rfl) (by kernel_rfl) (by kernel_rfl) rfl ⟨(stab_rep hR), stab_I, (stab_el hR), stab_I, stab_I, (stab_rep hR), stab_I, stab_I, (stab_el hR), stab_I, stab_I, stab_I, stab_I, stab_I, trivial⟩ ?_ ?_
  ·
    refine RunAll.cons (isRep (.sl (.int .u8)) (Kx K w.heap.size []) x0) [] rfl rfl ?_ ?_
    · intro W_ hW
      have S1 := S
      refine fill_nil S1 ?_; clear S1; intro a_ S1
      replace R0 := R0.step hW
      have S0 := S.defers; replace S := S1; clear S1
      refine wl_pure (l' := [(5, v0), (0, v0), (1, .int .i64 x1)]) S tys tys_ok 1 (by kernel_rfl) ?_; clear S; intro a S
      refine wpList_nil ?_
      exact RPost.mk_ S rfl S0 R0 (Below.refl _ _)
    refine RunAll.cons (isI .i64 x1) [] rfl rfl ?_ ?_
    · intro W_ hW
      have S1 := S
      refine fill_nil S1 ?_; clear S1; intro a_ S1
      have S0 := S.defers; replace S := S1; clear S1
      refine wl_pure (l' := [(6, .int .i64 x1), (0, v0), (1, .int .i64 x1)]) S tys tys_ok 1 (by kernel_rfl) ?_; clear S; intro a S
      refine wpList_nil ?_
      exact RPost.mk_ S rfl S0 ⟨rfl, G1⟩ (Below.refl _ _)
    refine RunAll.cons (isEl (.int .u8) (Kx K w.heap.size []) y_1) [(isRep (.sl (.int .u8)) (Kx K w.heap.size []) x0, 5), (isI .i64 x1, 6)] rfl rfl ?_ ?_
    · intro W_ hW
      have S1 := S
      intro v_17 hF_16; replace hF_16 : RepV _ _ _ _ _ := hF_16
      replace S1 := S1.put (by decide : 5 < 18) (v_17)
      rintro _ ⟨rfl, hF_18⟩
      replace S1 := S1.put (by decide : 6 < 18) (.int .i64 x1)
      refine fill_nil S1 ?_; clear S1; intro a_ S1
      replace W := W.step hW
      have S0 := S.defers; replace S := S1; clear S1
      refine w_go S rfl (op_indexAddr S rfl ty28 rfl rfl rfl hF_16 rfl ey_1 ?_)
      clear S; intro a p_20 R_21 H_22 S
      refine wpList_nil ?_
      exact RPost.mk_ S rfl S0 ⟨_, rfl, R_21, H_22⟩ (Below.refl _ _)
    refine RunAll.cons (isI .u8 y_1) [(isEl (.int .u8) (Kx K w.heap.size []) y_1, 7)] rfl rfl ?_ ?_
    · intro W_ hW
      have S1 := S
      rintro _ ⟨p_25, rfl, R_26, H_27⟩
      replace S1 := S1.put (by decide : 7 < 18) (.pointer (some p_25))
      refine fill_nil S1 ?_; clear S1; intro a_ S1
      have S0 := S.defers; replace S := S1; clear S1
      refine w_go S rfl (op_load (t := (.int .u8)) (x := y_1) S rfl ty5 rfl rfl rfl R_26 ?_)
      clear S; intro a v_28 R_29 S
      obtain ⟨rfl, GR_29⟩ := RepV.int R_29
      refine wpList_nil ?_
      exact RPost.mk_ S rfl S0 ⟨rfl, GR_29⟩ (Below.refl _ _)
    refine RunAll.cons (isI .i64 y_1) [(isI .u8 y_1, 8)] rfl rfl ?_ ?_
    · intro W_ hW
      have S1 := S
      rintro _ ⟨rfl, hF_30⟩
      replace S1 := S1.put (by decide : 8 < 18) (.int .u8 y_1)
      refine fill_nil S1 ?_; clear S1; intro a_ S1
      replace W := W.step hW
      have S0 := S.defers; replace S := S1; clear S1
      refine w_go S rfl (op_conv S .i64 .bool .bool rfl ty5 ty3 rfl rfl rfl (widen hF_30 (by decide)).1 ?_)
      clear S; intro a S
      refine wpList_nil ?_
      exact RPost.mk_ S rfl S0 ⟨rfl, (widen hF_30 (by decide)).2⟩ (Below.refl _ _)
    refine RunAll.cons (isRep (.sl (.int .u8)) (Kx K w.heap.size []) x0) [] rfl rfl ?_ ?_
    · intro W_ hW
      have S1 := S
      refine fill_nil S1 ?_; clear S1; intro a_ S1
      replace R0 := R0.step hW
      have S0 := S.defers; replace S := S1; clear S1
      refine wl_pure (l' := [(10, v0), (0, v0), (1, .int .i64 x1)]) S tys tys_ok 1 (by kernel_rfl) ?_; clear S; intro a S
      refine wpList_nil ?_
      exact RPost.mk_ S rfl S0 R0 (Below.refl _ _)
    refine RunAll.cons (isI .i64 x1) [] rfl rfl ?_ ?_
    · intro W_ hW
      have S1 := S
      refine fill_nil S1 ?_; clear S1; intro a_ S1
      have S0 := S.defers; replace S := S1; clear S1
      refine wl_pure (l' := [(11, .int .i64 x1), (0, v0), (1, .int .i64 x1)]) S tys tys_ok 1 (by kernel_rfl) ?_; clear S; intro a S
      refine wpList_nil ?_
      exact RPost.mk_ S rfl S0 ⟨rfl, G1⟩ (Below.refl _ _)
    refine RunAll.cons (isI .i64 x_7) [(isI .i64 x1, 11)] rfl rfl ?_ ?_
    · intro W_ hW
      have S1 := S
      rintro _ ⟨rfl, hF_32⟩
      replace S1 := S1.put (by decide : 11 < 18) (.int .i64 x1)
      refine fill_nil S1 ?_; clear S1; intro a_ S1
      have S0 := S.defers; replace S := S1; clear S1
      refine w_go S rfl (op_arith S .i64 (x1 + 1) rfl (.inl rfl) rfl rfl rfl rfl ex_7 ?_)
      clear S; intro a S
      refine wpList_nil ?_
      exact RPost.mk_ S rfl S0 ⟨rfl, (ckI_some ex_7).2.1⟩ (Below.refl _ _)
    refine RunAll.cons (isEl (.int .u8) (Kx K w.heap.size []) y_8) [(isRep (.sl (.int .u8)) (Kx K w.heap.size []) x0, 10), (isI .i64 x_7, 12)] rfl rfl ?_ ?_
    · intro W_ hW
      have S1 := S
      intro v_35 hF_34; replace hF_34 : RepV _ _ _ _ _ := hF_34
      replace S1 := S1.put (by decide : 10 < 18) (v_35)
      rintro _ ⟨rfl, hF_36⟩
      replace S1 := S1.put (by decide : 12 < 18) (.int .i64 x_7)
      refine fill_nil S1 ?_; clear S1; intro a_ S1
      replace W := W.step hW
      have S0 := S.defers; replace S := S1; clear S1
      refine w_go S rfl (op_indexAddr S rfl ty28 rfl rfl rfl hF_34 rfl ey_8 ?_)
      clear S; intro a p_38 R_39 H_40 S
      refine wpList_nil ?_
      exact RPost.mk_ S rfl S0 ⟨_, rfl, R_39, H_40⟩ (Below.refl _ _)
    refine RunAll.cons (isI .u8 y_8) [(isEl (.int .u8) (Kx K w.heap.size []) y_8, 13)] rfl rfl ?_ ?_
    · intro W_ hW
      have S1 := S
      rintro _ ⟨p_43, rfl, R_44, H_45⟩
      replace S1 := S1.put (by decide : 13 < 18) (.pointer (some p_43))
      refine fill_nil S1 ?_; clear S1; intro a_ S1
      have S0 := S.defers; replace S := S1; clear S1
      refine w_go S rfl (op_load (t := (.int .u8)) (x := y_8) S rfl ty5 rfl rfl rfl R_44 ?_)
      clear S; intro a v_46 R_47 S
      obtain ⟨rfl, GR_47⟩ := RepV.int R_47
      refine wpList_nil ?_
      exact RPost.mk_ S rfl S0 ⟨rfl, GR_47⟩ (Below.refl _ _)
    refine RunAll.cons (isI .i64 y_8) [(isI .u8 y_8, 14)] rfl rfl ?_ ?_
    · intro W_ hW
      have S1 := S
      rintro _ ⟨rfl, hF_48⟩
      replace S1 := S1.put (by decide : 14 < 18) (.int .u8 y_8)
      refine fill_nil S1 ?_; clear S1; intro a_ S1
      replace W := W.step hW
      have S0 := S.defers; replace S := S1; clear S1
      refine w_go S rfl (op_conv S .i64 .bool .bool rfl ty5 ty3 rfl rfl rfl (widen hF_48 (by decide)).1 ?_)
      clear S; intro a S
      refine wpList_nil ?_
      exact RPost.mk_ S rfl S0 ⟨rfl, (widen hF_48 (by decide)).2⟩ (Below.refl _ _)
    refine RunAll.cons (isI .i64 x_14) [(isI .i64 y_8, 15)] rfl rfl ?_ ?_
    · intro W_ hW
      have S1 := S
      rintro _ ⟨rfl, hF_50⟩
      replace S1 := S1.put (by decide : 15 < 18) (.int .i64 y_8)
      refine fill_nil S1 ?_; clear S1; intro a_ S1
      have S0 := S.defers; replace S := S1; clear S1
      refine w_go S rfl (op_arith S .i64 (256 * y_8) rfl (.inr (.inr rfl)) rfl rfl rfl rfl ex_14 ?_)
      clear S; intro a S
      refine wpList_nil ?_
      exact RPost.mk_ S rfl S0 ⟨rfl, (ckI_some ex_14).2.1⟩ (Below.refl _ _)
    refine RunAll.cons (isI .i64 x_15) [(isI .i64 y_1, 9), (isI .i64 x_14, 16)] rfl rfl ?_ ?_
    · intro W_ hW
      have S1 := S
      rintro _ ⟨rfl, hF_52⟩
      replace S1 := S1.put (by decide : 9 < 18) (.int .i64 y_1)
      rintro _ ⟨rfl, hF_54⟩
      replace S1 := S1.put (by decide : 16 < 18) (.int .i64 x_14)
      refine fill_nil S1 ?_; clear S1; intro a_ S1
      have S0 := S.defers; replace S := S1; clear S1
      refine w_go S rfl (op_arith S .i64 (y_1 + x_14) rfl (.inl rfl) rfl rfl rfl rfl ex_15 ?_)
      clear S; intro a S
      refine wpList_nil ?_
      exact RPost.mk_ S rfl S0 ⟨rfl, (ckI_some ex_15).2.1⟩ (Below.refl _ _)
    refine RunAll.cons (isI .i64 x_15) [(isI .i64 x_15, 17)] rfl rfl ?_ ?_
    · intro W_ hW
      have S1 := S
      rintro _ ⟨rfl, hF_56⟩
      replace S1 := S1.put (by decide : 17 < 18) (.int .i64 x_15)
      refine fill_nil S1 ?_; clear S1; intro a_ S1
      have S0 := S.defers; replace S := S1; clear S1
      refine wl_pure (l' := [(4, .int .i64 x_15), (17, .int .i64 x_15), (0, v0), (1, .int .i64 x1)]) S tys tys_ok 1 (by kernel_rfl) ?_; clear S; intro a S
      refine wpList_nil ?_
      exact RPost.mk_ S rfl S0 ⟨rfl, hF_56⟩ (Below.refl _ _)
    exact trivial
  intro w_58 hb_59
  refine EndE.some_ rfl ?_
  intro v_61 hF_60; replace hF_60 : RepV _ _ _ _ _ := hF_60
  replace S := S.put (by decide : 5 < 18) (v_61)
  refine EndE.some_ rfl ?_
  rintro _ ⟨rfl, hF_62⟩
  replace S := S.put (by decide : 6 < 18) (.int .i64 x1)
  refine EndE.some_ rfl ?_
  rintro _ ⟨p_66, rfl, R_67, H_68⟩
  replace S := S.put (by decide : 7 < 18) (.pointer (some p_66))
  refine EndE.some_ rfl ?_
  rintro _ ⟨rfl, hF_69⟩
  replace S := S.put (by decide : 8 < 18) (.int .u8 y_1)
  refine EndE.some_ rfl ?_
  rintro _ ⟨rfl, hF_71⟩
  replace S := S.put (by decide : 9 < 18) (.int .i64 y_1)
  refine EndE.some_ rfl ?_
  intro v_74 hF_73; replace hF_73 : RepV _ _ _ _ _ := hF_73
  replace S := S.put (by decide : 10 < 18) (v_74)
  refine EndE.some_ rfl ?_
  rintro _ ⟨rfl, hF_75⟩
  replace S := S.put (by decide : 11 < 18) (.int .i64 x1)
  refine EndE.some_ rfl ?_
  rintro _ ⟨rfl, hF_77⟩
  replace S := S.put (by decide : 12 < 18) (.int .i64 x_7)
  refine EndE.some_ rfl ?_
  rintro _ ⟨p_81, rfl, R_82, H_83⟩
  replace S := S.put (by decide : 13 < 18) (.pointer (some p_81))
  refine EndE.some_ rfl ?_
  rintro _ ⟨rfl, hF_84⟩
  replace S := S.put (by decide : 14 < 18) (.int .u8 y_8)
  refine EndE.some_ rfl ?_
  rintro _ ⟨rfl, hF_86⟩
  replace S := S.put (by decide : 15 < 18) (.int .i64 y_8)
  refine EndE.some_ rfl ?_
  rintro _ ⟨rfl, hF_88⟩
  replace S := S.put (by decide : 16 < 18) (.int .i64 x_14)
  refine EndE.some_ rfl ?_
  rintro _ ⟨rfl, hF_90⟩
  replace S := S.put (by decide : 17 < 18) (.int .i64 x_15)
  refine EndE.some_ rfl ?_
  rintro _ ⟨rfl, hF_92⟩
  replace S := S.put (by decide : 4 < 18) (.int .i64 x_15)
  refine endE_nil S ?_; clear S; intro a S
  replace R0 := R0.step hb_59
  replace W := W.step hb_59
  refine then_n ?_
  replace S := S.sub (l' := [(4, .int .i64 x_15)]) (by exact ⟨rfl, trivial⟩)
  refine wp_ret ?_
  obtain rfl := Option.some.inj h
  exact b_ret1 S rfl rfl ⟨_, rfl, (RepV.mkInt hF_92), W.below⟩
theorem cb14 : callB Try.prog 14 = true := by kernel_rfl

end Go.Proofs.Ytlgalcekkffhnaa
