/- x. -/
import Derived.Test.YtojifdijcanbpaaQd1
set_option linter.unusedVariables false
set_option linter.unusedSimpArgs false
namespace Go.Proofs.Ytojifdijcanbpaa
open Go.RowKit

def p54 (n : Nat) (x0 : Sl (Int)) : Option ((Int × Int × Int × Int × Int × Int × Int × Int × Int × Int × Int × Int)) :=
  (p46 n x0 2).bind fun t_5 =>
  (idx x0.xs 4).bind fun y_10 =>
  (idx x0.xs 5).bind fun y_16 =>
  (idx x0.xs 6).bind fun y_22 =>
  (idx x0.xs 7).bind fun y_28 =>
  (p46 n x0 8).bind fun t_34 =>
  (p46 n x0 10).bind fun t_39 =>
  (p46 n x0 12).bind fun t_44 =>
  (idx x0.xs 14).bind fun y_49 =>
  (idx x0.xs 15).bind fun y_55 =>
  (idx x0.xs 16).bind fun y_61 =>
  (idx x0.xs 17).bind fun y_67 =>
  some (t_5, y_10, y_16, y_22, y_28, t_34, t_39, t_44, y_49, y_55, y_61, y_67)
set_option maxHeartbeats 4000000 in
set_option maxRecDepth 100000 in
/-- plugboard/descriptors.DecodeDevice$1 -/
theorem c54 (K : Nat → Prop) (n : Nat) (w : World) (x0 : Sl (Int)) (v0 : Value) (R0 : RepV (.sl (.int .u8)) w K v0 x0) {r : (Int × Int × Int × Int × Int × Int × Int × Int × Int × Int × Int × Int)} (h : p54 n x0 = some r) :
    Calls Try.prog 54 #[v0] w (Ret1 (.st (.pair (.int .u16) (.pair (.int .u8) (.pair (.int .u8) (.pair (.int .u8) (.pair (.int .u8) (.pair (.int .u16) (.pair (.int .u16) (.pair (.int .u16) (.pair (.int .u8) (.pair (.int .u8) (.pair (.int .u8) (.int .u8))))))))))))) w (Kx K w.heap.size []) r) := by
  refine enter (args := [v0]) Try.func54 rfl 36 rfl rfl fun a S => ?_
  have W := Wd.start w
  replace R0 := R0.arg
  unfold p54 at h
  replace S : St 36 a [(0, v0)] := S
  refine wp_seq ?_
  refine wp_region_lit ?_
  refine w_go S rfl (op_alloc (K := K) (n := w.heap.size) (L := []) (t := (.st (.pair (.int .u16) (.pair (.int .u8) (.pair (.int .u8) (.pair (.int .u8) (.pair (.int .u8) (.pair (.int .u16) (.pair (.int .u16) (.pair (.int .u16) (.pair (.int .u8) (.pair (.int .u8) (.pair (.int .u8) (.int .u8)))))))))))))) (y := (0, 0, 0, 0, 0, 0, 0, 0, 0, 0, 0, 0)) S rfl rfl rfl _ z47 (fun w K => ⟨[.int .u16 0], [.int .u8 0, .int .u8 0, .int .u8 0, .int .u8 0, .int .u16 0, .int .u16 0, .int .u16 0, .int .u8 0, .int .u8 0, .int .u8 0, .int .u8 0], rfl, ⟨rfl, by decide⟩, ⟨[.int .u8 0], [.int .u8 0, .int .u8 0, .int .u8 0, .int .u16 0, .int .u16 0, .int .u16 0, .int .u8 0, .int .u8 0, .int .u8 0, .int .u8 0], rfl, ⟨rfl, by decide⟩, ⟨[.int .u8 0], [.int .u8 0, .int .u8 0, .int .u16 0, .int .u16 0, .int .u16 0, .int .u8 0, .int .u8 0, .int .u8 0, .int .u8 0], rfl, ⟨rfl, by decide⟩, ⟨[.int .u8 0], [.int .u8 0, .int .u16 0, .int .u16 0, .int .u16 0, .int .u8 0, .int .u8 0, .int .u8 0, .int .u8 0], rfl, ⟨rfl, by decide⟩, ⟨[.int .u8 0], [.int .u16 0, .int .u16 0, .int .u16 0, .int .u8 0, .int .u8 0, .int .u8 0, .int .u8 0], rfl, ⟨rfl, by decide⟩, ⟨[.int .u16 0], [.int .u16 0, .int .u16 0, .int .u8 0, .int .u8 0, .int .u8 0, .int .u8 0], rfl, ⟨rfl, by decide⟩, ⟨[.int .u16 0], [.int .u16 0, .int .u8 0, .int .u8 0, .int .u8 0, .int .u8 0], rfl, ⟨rfl, by decide⟩, ⟨[.int .u16 0], [.int .u8 0, .int .u8 0, .int .u8 0, .int .u8 0], rfl, ⟨rfl, by decide⟩, ⟨[.int .u8 0], [.int .u8 0, .int .u8 0, .int .u8 0], rfl, ⟨rfl, by decide⟩, ⟨[.int .u8 0], [.int .u8 0, .int .u8 0], rfl, ⟨rfl, by decide⟩, ⟨[.int .u8 0], [.int .u8 0], rfl, ⟨rfl, by decide⟩, ⟨rfl, by decide⟩⟩⟩⟩⟩⟩⟩⟩⟩⟩⟩⟩) ?_)
  clear S; intro a w_3 b_1 hb_4 B_2 S
  replace R0 := R0.box hb_4
  replace W := W.box hb_4
  refine wpList_nil ?_
  refine then_n ?_
  refine wp_seq ?_
  obtain ⟨t_5, et_5, h⟩ := bindS h
  obtain ⟨y_10, ey_10, h⟩ := bindS h
  obtain ⟨y_16, ey_16, h⟩ := bindS h
  obtain ⟨y_22, ey_22, h⟩ := bindS h
  obtain ⟨y_28, ey_28, h⟩ := bindS h
  obtain ⟨t_34, et_34, h⟩ := bindS h
  obtain ⟨t_39, et_39, h⟩ := bindS h
  obtain ⟨t_44, et_44, h⟩ := bindS h
  obtain ⟨y_49, ey_49, h⟩ := bindS h
  obtain ⟨y_55, ey_55, h⟩ := bindS h
  obtain ⟨y_61, ey_61, h⟩ := bindS h
  obtain ⟨y_67, ey_67, h⟩ := bindS h
  have hR : Rel (Kx K w.heap.size [some b_1]) Bl := Bl.rel _
  refine wp_region_suf 33 hR [isRep (.sl (.int .u8)) (Kx K w.heap.size [some b_1]) x0, isI .u16 t_5, isRep (.sl (.int .u8)) (Kx K w.heap.size [some b_1]) x0, isEl (.int .u8) (Kx K w.heap.size [some b_1]) y_10, isI .u8 y_10, isRep (.sl (.int .u8)) (Kx K w.heap.size [some b_1]) x0, isEl (.int .u8) (Kx K w.heap.size [some b_1]) y_16, isI .u8 y_16, isRep (.sl (.int .u8)) (Kx K w.heap.size [some b_1]) x0, isEl (.int .u8) (Kx K w.heap.size [some b_1]) y_22, isI .u8 y_22, isRep (.sl (.int .u8)) (Kx K w.heap.size [some b_1]) x0, isEl (.int .u8) (Kx K w.heap.size [some b_1]) y_28, isI .u8 y_28, isRep (.sl (.int .u8)) (Kx K w.heap.size [some b_1]) x0, isI .u16 t_34, isRep (.sl (.int .u8)) (Kx K w.heap.size [some b_1]) x0, isI .u16 t_39, isRep (.sl (.int .u8)) (Kx K w.heap.size [some b_1]) x0, isI .u16 t_44, isRep (.sl (.int .u8)) (Kx K w.heap.size [some b_1]) x0, isEl (.int .u8) (Kx K w.heap.size [some b_1]) y_49, isI .u8 y_49, isRep (.sl (.int .u8)) (Kx K w.heap.size [some b_1]) x0, isEl (.int .u8) (Kx K w.heap.size [some b_1]) y_55, isI .u8 y_55, isRep (.sl (.int .u8)) (Kx K w.heap.size [some b_1]) x0, isEl (.int .u8) (Kx K w.heap.size [some b_1]) y_61, isI .u8 y_61, isRep (.sl (.int .u8)) (Kx K w.heap.size [some b_1]) x0, isEl (.int .u8) (Kx K w.heap.size [some b_1]) y_67, isI .u8 y_67, isRep (.st (.pair (.int .u16) (.pair (.int .u8) (.pair (.int .u8) (.pair (.int .u8) (.pair (.int .u8) (.pair (.int .u16) (.pair (.int .u16) (.pair (.int .u16) (.pair (.int .u8) (.pair (.int .u8) (.pair (.int .u8) (.int .u8))))))))))))) (Kx K w.heap.size [some b_1]) (t_5, y_10, y_16, y_22, y_28, t_34, t_39, t_44, y_49, y_55, y_61, y_67)] [[], [(0, 3)], [], [(2, 5)], [(3, 6)], [], [(5, 8)], [(6, 9)], [], [(8, 11)], [(9, 12)], [], [(11, 14)], [(12, 15)], [], [(14, 17)], [], [(16, 19)], [], [(18, 21)], [], [(20, 23)], [(21, 24)], [], [(23, 26)], [(24, 27)], [], [(26, 29)], [(27, 30)], [], [(29, 32)], [(30, 33)], [(1, 4), (4, 7), (7, 10), (10, 13), (13, 16), (15, 18), (17, 20), (19, 22), (22, 25), (25, 28), (28, 31), (31, 34)]] (by kernel_rfl) (by rw [S.size]; kernel_rfl) (by kernel_rfl) (by kernel_rfl) (by kernel_rfl) rfl ⟨(stab_rep hR), stab_I, (stab_rep hR), (stab_el hR), stab_I, (stab_rep hR), (stab_el hR), stab_I, (stab_rep hR), (stab_el hR), stab_I, (stab_rep hR), (stab_el hR), stab_I, (stab_rep hR), stab_I, (stab_rep hR), stab_I, (stab_rep hR), stab_I, (stab_rep hR), (stab_el hR), stab_I, (stab_rep hR), (stab_el hR), stab_I, (stab_rep hR), (stab_el hR), stab_I, (stab_rep hR), (stab_el hR), stab_I, (stab_rep hR), trivial⟩ ?_ ?_
  ·
    refine RunAll.cons (isRep (.sl (.int .u8)) (Kx K w.heap.size [some b_1]) x0) [] rfl rfl ?_ ?_
    · intro W_ hW
      have S1 := S
      refine fill_nil S1 ?_; clear S1; intro a_ S1
      replace R0 := R0.step hW
      have S0 := S.defers; replace S := S1; clear S1
      refine wl_pure (l' := [(3, v0), (2, .pointer (some (⟨b_1, 0, .none⟩ : Addr))), (0, v0)]) S tys tys_ok 1 (by kernel_rfl) ?_; clear S; intro a S
      refine wpList_nil ?_
      exact RPost.mk_ S rfl S0 R0 (Below.refl _ _)
    refine RunAll.cons (isI .u16 t_5) [(isRep (.sl (.int .u8)) (Kx K w.heap.size [some b_1]) x0, 3)] rfl rfl ?_ ?_
    · intro W_ hW
      have S1 := S
      intro v_76 hF_75; replace hF_75 : RepV _ _ _ _ _ := hF_75
      replace S1 := S1.put (by decide : 3 < 36) (v_76)
      refine fill_nil S1 ?_; clear S1; intro a_ S1
      replace W := W.step hW
      have S0 := S.defers; replace S := S1; clear S1
      refine w_go S rfl (op_call (vs := [v_76, .int .i64 2]) S rfl cb46 rfl rfl rfl (c46 (Kx K w.heap.size [some b_1]) n W_ x0 _ hF_75 2 (by decide) et_5) ?_)
      rintro _ w_80 ⟨v_77, rfl, R_78, hb_79⟩; refine ⟨_, rfl, ?_⟩
      replace R_78 := RepV.back R_78 W
      clear S; intro a S
      obtain ⟨rfl, GR_78⟩ := RepV.int R_78
      refine wpList_nil ?_
      exact RPost.mk_ S rfl S0 ⟨rfl, GR_78⟩ (hb_79)
    refine RunAll.cons (isRep (.sl (.int .u8)) (Kx K w.heap.size [some b_1]) x0) [] rfl rfl ?_ ?_
    · intro W_ hW
      have S1 := S
      refine fill_nil S1 ?_; clear S1; intro a_ S1
      replace R0 := R0.step hW
      have S0 := S.defers; replace S := S1; clear S1
      refine wl_pure (l' := [(5, v0), (2, .pointer (some (⟨b_1, 0, .none⟩ : Addr))), (0, v0)]) S tys tys_ok 1 (by kernel_rfl) ?_; clear S; intro a S
      refine wpList_nil ?_
      exact RPost.mk_ S rfl S0 R0 (Below.refl _ _)
    refine RunAll.cons (isEl (.int .u8) (Kx K w.heap.size [some b_1]) y_10) [(isRep (.sl (.int .u8)) (Kx K w.heap.size [some b_1]) x0, 5)] rfl rfl ?_ ?_
    · intro W_ hW
      have S1 := S
      intro v_82 hF_81; replace hF_81 : RepV _ _ _ _ _ := hF_81
      replace S1 := S1.put (by decide : 5 < 36) (v_82)
      refine fill_nil S1 ?_; clear S1; intro a_ S1
      replace W := W.step hW
      have S0 := S.defers; replace S := S1; clear S1
      refine w_go S rfl (op_indexAddr S rfl ty23 rfl rfl rfl hF_81 rfl ey_10 ?_)
      clear S; intro a p_83 R_84 H_85 S
      refine wpList_nil ?_
      exact RPost.mk_ S rfl S0 ⟨_, rfl, R_84, H_85⟩ (Below.refl _ _)
    refine RunAll.cons (isI .u8 y_10) [(isEl (.int .u8) (Kx K w.heap.size [some b_1]) y_10, 6)] rfl rfl ?_ ?_
    · intro W_ hW
      have S1 := S
      rintro _ ⟨p_88, rfl, R_89, H_90⟩
      replace S1 := S1.put (by decide : 6 < 36) (.pointer (some p_88))
      refine fill_nil S1 ?_; clear S1; intro a_ S1
      have S0 := S.defers; replace S := S1; clear S1
      refine w_go S rfl (op_load (t := (.int .u8)) (x := y_10) S rfl ty5 rfl rfl rfl R_89 ?_)
      clear S; intro a v_91 R_92 S
      obtain ⟨rfl, GR_92⟩ := RepV.int R_92
      refine wpList_nil ?_
      exact RPost.mk_ S rfl S0 ⟨rfl, GR_92⟩ (Below.refl _ _)
    refine RunAll.cons (isRep (.sl (.int .u8)) (Kx K w.heap.size [some b_1]) x0) [] rfl rfl ?_ ?_
    · intro W_ hW
      have S1 := S
      refine fill_nil S1 ?_; clear S1; intro a_ S1
      replace R0 := R0.step hW
      have S0 := S.defers; replace S := S1; clear S1
      refine wl_pure (l' := [(8, v0), (2, .pointer (some (⟨b_1, 0, .none⟩ : Addr))), (0, v0)]) S tys tys_ok 1 (by kernel_rfl) ?_; clear S; intro a S
      refine wpList_nil ?_
      exact RPost.mk_ S rfl S0 R0 (Below.refl _ _)
    refine RunAll.cons (isEl (.int .u8) (Kx K w.heap.size [some b_1]) y_16) [(isRep (.sl (.int .u8)) (Kx K w.heap.size [some b_1]) x0, 8)] rfl rfl ?_ ?_
    · intro W_ hW
      have S1 := S
      intro v_94 hF_93; replace hF_93 : RepV _ _ _ _ _ := hF_93
      replace S1 := S1.put (by decide : 8 < 36) (v_94)
      refine fill_nil S1 ?_; clear S1; intro a_ S1
      replace W := W.step hW
      have S0 := S.defers; replace S := S1; clear S1
      refine w_go S rfl (op_indexAddr S rfl ty23 rfl rfl rfl hF_93 rfl ey_16 ?_)
      clear S; intro a p_95 R_96 H_97 S
      refine wpList_nil ?_
      exact RPost.mk_ S rfl S0 ⟨_, rfl, R_96, H_97⟩ (Below.refl _ _)
    refine RunAll.cons (isI .u8 y_16) [(isEl (.int .u8) (Kx K w.heap.size [some b_1]) y_16, 9)] rfl rfl ?_ ?_
    · intro W_ hW
      have S1 := S
      rintro _ ⟨p_100, rfl, R_101, H_102⟩
      replace S1 := S1.put (by decide : 9 < 36) (.pointer (some p_100))
      refine fill_nil S1 ?_; clear S1; intro a_ S1
      have S0 := S.defers; replace S := S1; clear S1
      refine w_go S rfl (op_load (t := (.int .u8)) (x := y_16) S rfl ty5 rfl rfl rfl R_101 ?_)
      clear S; intro a v_103 R_104 S
      obtain ⟨rfl, GR_104⟩ := RepV.int R_104
      refine wpList_nil ?_
      exact RPost.mk_ S rfl S0 ⟨rfl, GR_104⟩ (Below.refl _ _)
    refine RunAll.cons (isRep (.sl (.int .u8)) (Kx K w.heap.size [some b_1]) x0) [] rfl rfl ?_ ?_
    · intro W_ hW
      have S1 := S
      refine fill_nil S1 ?_; clear S1; intro a_ S1
      replace R0 := R0.step hW
      have S0 := S.defers; replace S := S1; clear S1
      refine wl_pure (l' := [(11, v0), (2, .pointer (some (⟨b_1, 0, .none⟩ : Addr))), (0, v0)]) S tys tys_ok 1 (by kernel_rfl) ?_; clear S; intro a S
      refine wpList_nil ?_
      exact RPost.mk_ S rfl S0 R0 (Below.refl _ _)
    refine RunAll.cons (isEl (.int .u8) (Kx K w.heap.size [some b_1]) y_22) [(isRep (.sl (.int .u8)) (Kx K w.heap.size [some b_1]) x0, 11)] rfl rfl ?_ ?_
    · intro W_ hW
      have S1 := S
      intro v_106 hF_105; replace hF_105 : RepV _ _ _ _ _ := hF_105
      replace S1 := S1.put (by decide : 11 < 36) (v_106)
      refine fill_nil S1 ?_; clear S1; intro a_ S1
      replace W := W.step hW
      have S0 := S.defers; replace S := S1; clear S1
      refine w_go S rfl (op_indexAddr S rfl ty23 rfl rfl rfl hF_105 rfl ey_22 ?_)
      clear S; intro a p_107 R_108 H_109 S
      refine wpList_nil ?_
      exact RPost.mk_ S rfl S0 ⟨_, rfl, R_108, H_109⟩ (Below.refl _ _)
    refine RunAll.cons (isI .u8 y_22) [(isEl (.int .u8) (Kx K w.heap.size [some b_1]) y_22, 12)] rfl rfl ?_ ?_
    · intro W_ hW
      have S1 := S
      rintro _ ⟨p_112, rfl, R_113, H_114⟩
      replace S1 := S1.put (by decide : 12 < 36) (.pointer (some p_112))
      refine fill_nil S1 ?_; clear S1; intro a_ S1
      have S0 := S.defers; replace S := S1; clear S1
      refine w_go S rfl (op_load (t := (.int .u8)) (x := y_22) S rfl ty5 rfl rfl rfl R_113 ?_)
      clear S; intro a v_115 R_116 S
      obtain ⟨rfl, GR_116⟩ := RepV.int R_116
      refine wpList_nil ?_
      exact RPost.mk_ S rfl S0 ⟨rfl, GR_116⟩ (Below.refl _ _)
    refine RunAll.cons (isRep (.sl (.int .u8)) (Kx K w.heap.size [some b_1]) x0) [] rfl rfl ?_ ?_
    · intro W_ hW
      have S1 := S
      refine fill_nil S1 ?_; clear S1; intro a_ S1
      replace R0 := R0.step hW
      have S0 := S.defers; replace S := S1; clear S1
      refine wl_pure (l' := [(14, v0), (2, .pointer (some (⟨b_1, 0, .none⟩ : Addr))), (0, v0)]) S tys tys_ok 1 (by kernel_rfl) ?_; clear S; intro a S
      refine wpList_nil ?_
      exact RPost.mk_ S rfl S0 R0 (Below.refl _ _)
    refine RunAll.cons (isEl (.int .u8) (Kx K w.heap.size [some b_1]) y_28) [(isRep (.sl (.int .u8)) (Kx K w.heap.size [some b_1]) x0, 14)] rfl rfl ?_ ?_
    · intro W_ hW
      have S1 := S
      intro v_118 hF_117; replace hF_117 : RepV _ _ _ _ _ := hF_117
      replace S1 := S1.put (by decide : 14 < 36) (v_118)
      refine fill_nil S1 ?_; clear S1; intro a_ S1
      replace W := W.step hW
      have S0 := S.defers; replace S := S1; clear S1
      refine w_go S rfl (op_indexAddr S rfl ty23 rfl rfl rfl hF_117 rfl ey_28 ?_)
      clear S; intro a p_119 R_120 H_121 S
      refine wpList_nil ?_
      exact RPost.mk_ S rfl S0 ⟨_, rfl, R_120, H_121⟩ (Below.refl _ _)
    refine RunAll.cons (isI .u8 y_28) [(isEl (.int .u8) (Kx K w.heap.size [some b_1]) y_28, 15)] rfl rfl ?_ ?_
    · intro W_ hW
      have S1 := S
      rintro _ ⟨p_124, rfl, R_125, H_126⟩
      replace S1 := S1.put (by decide : 15 < 36) (.pointer (some p_124))
      refine fill_nil S1 ?_; clear S1; intro a_ S1
      have S0 := S.defers; replace S := S1; clear S1
      refine w_go S rfl (op_load (t := (.int .u8)) (x := y_28) S rfl ty5 rfl rfl rfl R_125 ?_)
      clear S; intro a v_127 R_128 S
      obtain ⟨rfl, GR_128⟩ := RepV.int R_128
      refine wpList_nil ?_
      exact RPost.mk_ S rfl S0 ⟨rfl, GR_128⟩ (Below.refl _ _)
    refine RunAll.cons (isRep (.sl (.int .u8)) (Kx K w.heap.size [some b_1]) x0) [] rfl rfl ?_ ?_
    · intro W_ hW
      have S1 := S
      refine fill_nil S1 ?_; clear S1; intro a_ S1
      replace R0 := R0.step hW
      have S0 := S.defers; replace S := S1; clear S1
      refine wl_pure (l' := [(17, v0), (2, .pointer (some (⟨b_1, 0, .none⟩ : Addr))), (0, v0)]) S tys tys_ok 1 (by kernel_rfl) ?_; clear S; intro a S
      refine wpList_nil ?_
      exact RPost.mk_ S rfl S0 R0 (Below.refl _ _)
    refine RunAll.cons (isI .u16 t_34) [(isRep (.sl (.int .u8)) (Kx K w.heap.size [some b_1]) x0, 17)] rfl rfl ?_ ?_
    · intro W_ hW
      have S1 := S
      intro v_130 hF_129; replace hF_129 : RepV _ _ _ _ _ := hF_129
      replace S1 := S1.put (by decide : 17 < 36) (v_130)
      refine fill_nil S1 ?_; clear S1; intro a_ S1
      replace W := W.step hW
      have S0 := S.defers; replace S := S1; clear S1
      refine w_go S rfl (op_call (vs := [v_130, .int .i64 8]) S rfl cb46 rfl rfl rfl (c46 (Kx K w.heap.size [some b_1]) n W_ x0 _ hF_129 8 (by decide) et_34) ?_)
      rintro _ w_134 ⟨v_131, rfl, R_132, hb_133⟩; refine ⟨_, rfl, ?_⟩
      replace R_132 := RepV.back R_132 W
      clear S; intro a S
      obtain ⟨rfl, GR_132⟩ := RepV.int R_132
      refine wpList_nil ?_
      exact RPost.mk_ S rfl S0 ⟨rfl, GR_132⟩ (hb_133)
    refine RunAll.cons (isRep (.sl (.int .u8)) (Kx K w.heap.size [some b_1]) x0) [] rfl rfl ?_ ?_
    · intro W_ hW
      have S1 := S
      refine fill_nil S1 ?_; clear S1; intro a_ S1
      replace R0 := R0.step hW
      have S0 := S.defers; replace S := S1; clear S1
      refine wl_pure (l' := [(19, v0), (2, .pointer (some (⟨b_1, 0, .none⟩ : Addr))), (0, v0)]) S tys tys_ok 1 (by kernel_rfl) ?_; clear S; intro a S
      refine wpList_nil ?_
      exact RPost.mk_ S rfl S0 R0 (Below.refl _ _)
    refine RunAll.cons (isI .u16 t_39) [(isRep (.sl (.int .u8)) (Kx K w.heap.size [some b_1]) x0, 19)] rfl rfl ?_ ?_
    · intro W_ hW
      have S1 := S
      intro v_136 hF_135; replace hF_135 : RepV _ _ _ _ _ := hF_135
      replace S1 := S1.put (by decide : 19 < 36) (v_136)
      refine fill_nil S1 ?_; clear S1; intro a_ S1
      replace W := W.step hW
      have S0 := S.defers; replace S := S1; clear S1
      refine w_go S rfl (op_call (vs := [v_136, .int .i64 10]) S rfl cb46 rfl rfl rfl (c46 (Kx K w.heap.size [some b_1]) n W_ x0 _ hF_135 10 (by decide) et_39) ?_)
      rintro _ w_140 ⟨v_137, rfl, R_138, hb_139⟩; refine ⟨_, rfl, ?_⟩
      replace R_138 := RepV.back R_138 W
      clear S; intro a S
      obtain ⟨rfl, GR_138⟩ := RepV.int R_138
      refine wpList_nil ?_
      exact RPost.mk_ S rfl S0 ⟨rfl, GR_138⟩ (hb_139)
    refine RunAll.cons (isRep (.sl (.int .u8)) (Kx K w.heap.size [some b_1]) x0) [] rfl rfl ?_ ?_
    · intro W_ hW
      have S1 := S
      refine fill_nil S1 ?_; clear S1; intro a_ S1
      replace R0 := R0.step hW
      have S0 := S.defers; replace S := S1; clear S1
      refine wl_pure (l' := [(21, v0), (2, .pointer (some (⟨b_1, 0, .none⟩ : Addr))), (0, v0)]) S tys tys_ok 1 (by kernel_rfl) ?_; clear S; intro a S
      refine wpList_nil ?_
      exact RPost.mk_ S rfl S0 R0 (Below.refl _ _)
    refine RunAll.cons (isI .u16 t_44) [(isRep (.sl (.int .u8)) (Kx K w.heap.size [some b_1]) x0, 21)] rfl rfl ?_ ?_
    · intro W_ hW
      have S1 := S
      intro v_142 hF_141; replace hF_141 : RepV _ _ _ _ _ := hF_141
      replace S1 := S1.put (by decide : 21 < 36) (v_142)
      refine fill_nil S1 ?_; clear S1; intro a_ S1
      replace W := W.step hW
      have S0 := S.defers; replace S := S1; clear S1
      refine w_go S rfl (op_call (vs := [v_142, .int .i64 12]) S rfl cb46 rfl rfl rfl (c46 (Kx K w.heap.size [some b_1]) n W_ x0 _ hF_141 12 (by decide) et_44) ?_)
      rintro _ w_146 ⟨v_143, rfl, R_144, hb_145⟩; refine ⟨_, rfl, ?_⟩
      replace R_144 := RepV.back R_144 W
      clear S; intro a S
      obtain ⟨rfl, GR_144⟩ := RepV.int R_144
      refine wpList_nil ?_
      exact RPost.mk_ S rfl S0 ⟨rfl, GR_144⟩ (hb_145)
    refine RunAll.cons (isRep (.sl (.int .u8)) (Kx K w.heap.size [some b_1]) x0) [] rfl rfl ?_ ?_
    · intro W_ hW
      have S1 := S
      refine fill_nil S1 ?_; clear S1; intro a_ S1
      replace R0 := R0.step hW
      have S0 := S.defers; replace S := S1; clear S1
      refine wl_pure (l' := [(23, v0), (2, .pointer (some (⟨b_1, 0, .none⟩ : Addr))), (0, v0)]) S tys tys_ok 1 (by kernel_rfl) ?_; clear S; intro a S
      refine wpList_nil ?_
      exact RPost.mk_ S rfl S0 R0 (Below.refl _ _)
    refine RunAll.cons (isEl (.int .u8) (Kx K w.heap.size [some b_1]) y_49) [(isRep (.sl (.int .u8)) (Kx K w.heap.size [some b_1]) x0, 23)] rfl rfl ?_ ?_
    · intro W_ hW
      have S1 := S
      intro v_148 hF_147; replace hF_147 : RepV _ _ _ _ _ := hF_147
      replace S1 := S1.put (by decide : 23 < 36) (v_148)
      refine fill_nil S1 ?_; clear S1; intro a_ S1
      replace W := W.step hW
      have S0 := S.defers; replace S := S1; clear S1
      refine w_go S rfl (op_indexAddr S rfl ty23 rfl rfl rfl hF_147 rfl ey_49 ?_)
      clear S; intro a p_149 R_150 H_151 S
      refine wpList_nil ?_
      exact RPost.mk_ S rfl S0 ⟨_, rfl, R_150, H_151⟩ (Below.refl _ _)
    refine RunAll.cons (isI .u8 y_49) [(isEl (.int .u8) (Kx K w.heap.size [some b_1]) y_49, 24)] rfl rfl ?_ ?_
    · intro W_ hW
      have S1 := S
      rintro _ ⟨p_154, rfl, R_155, H_156⟩
      replace S1 := S1.put (by decide : 24 < 36) (.pointer (some p_154))
      refine fill_nil S1 ?_; clear S1; intro a_ S1
      have S0 := S.defers; replace S := S1; clear S1
      refine w_go S rfl (op_load (t := (.int .u8)) (x := y_49) S rfl ty5 rfl rfl rfl R_155 ?_)
      clear S; intro a v_157 R_158 S
      obtain ⟨rfl, GR_158⟩ := RepV.int R_158
      refine wpList_nil ?_
      exact RPost.mk_ S rfl S0 ⟨rfl, GR_158⟩ (Below.refl _ _)
    refine RunAll.cons (isRep (.sl (.int .u8)) (Kx K w.heap.size [some b_1]) x0) [] rfl rfl ?_ ?_
    · intro W_ hW
      have S1 := S
      refine fill_nil S1 ?_; clear S1; intro a_ S1
      replace R0 := R0.step hW
      have S0 := S.defers; replace S := S1; clear S1
      refine wl_pure (l' := [(26, v0), (2, .pointer (some (⟨b_1, 0, .none⟩ : Addr))), (0, v0)]) S tys tys_ok 1 (by kernel_rfl) ?_; clear S; intro a S
      refine wpList_nil ?_
      exact RPost.mk_ S rfl S0 R0 (Below.refl _ _)
    refine RunAll.cons (isEl (.int .u8) (Kx K w.heap.size [some b_1]) y_55) [(isRep (.sl (.int .u8)) (Kx K w.heap.size [some b_1]) x0, 26)] rfl rfl ?_ ?_
    · intro W_ hW
      have S1 := S
      intro v_160 hF_159; replace hF_159 : RepV _ _ _ _ _ := hF_159
      replace S1 := S1.put (by decide : 26 < 36) (v_160)
      refine fill_nil S1 ?_; clear S1; intro a_ S1
      replace W := W.step hW
      have S0 := S.defers; replace S := S1; clear S1
      refine w_go S rfl (op_indexAddr S rfl ty23 rfl rfl rfl hF_159 rfl ey_55 ?_)
      clear S; intro a p_161 R_162 H_163 S
      refine wpList_nil ?_
      exact RPost.mk_ S rfl S0 ⟨_, rfl, R_162, H_163⟩ (Below.refl _ _)
    refine RunAll.cons (isI .u8 y_55) [(isEl (.int .u8) (Kx K w.heap.size [some b_1]) y_55, 27)] rfl rfl ?_ ?_
    · intro W_ hW
      have S1 := S
      rintro _ ⟨p_166, rfl, R_167, H_168⟩
      replace S1 := S1.put (by decide : 27 < 36) (.pointer (some p_166))
      refine fill_nil S1 ?_; clear S1; intro a_ S1
      have S0 := S.defers; replace S := S1; clear S1
      refine w_go S rfl (op_load (t := (.int .u8)) (x := y_55) S rfl ty5 rfl rfl rfl R_167 ?_)
      clear S; intro a v_169 R_170 S
      obtain ⟨rfl, GR_170⟩ := RepV.int R_170
      refine wpList_nil ?_
      exact RPost.mk_ S rfl S0 ⟨rfl, GR_170⟩ (Below.refl _ _)
    refine RunAll.cons (isRep (.sl (.int .u8)) (Kx K w.heap.size [some b_1]) x0) [] rfl rfl ?_ ?_
    · intro W_ hW
      have S1 := S
      refine fill_nil S1 ?_; clear S1; intro a_ S1
      replace R0 := R0.step hW
      have S0 := S.defers; replace S := S1; clear S1
      refine wl_pure (l' := [(29, v0), (2, .pointer (some (⟨b_1, 0, .none⟩ : Addr))), (0, v0)]) S tys tys_ok 1 (by kernel_rfl) ?_; clear S; intro a S
      refine wpList_nil ?_
      exact RPost.mk_ S rfl S0 R0 (Below.refl _ _)
    refine RunAll.cons (isEl (.int .u8) (Kx K w.heap.size [some b_1]) y_61) [(isRep (.sl (.int .u8)) (Kx K w.heap.size [some b_1]) x0, 29)] rfl rfl ?_ ?_
    · intro W_ hW
      have S1 := S
      intro v_172 hF_171; replace hF_171 : RepV _ _ _ _ _ := hF_171
      replace S1 := S1.put (by decide : 29 < 36) (v_172)
      refine fill_nil S1 ?_; clear S1; intro a_ S1
      replace W := W.step hW
      have S0 := S.defers; replace S := S1; clear S1
      refine w_go S rfl (op_indexAddr S rfl ty23 rfl rfl rfl hF_171 rfl ey_61 ?_)
      clear S; intro a p_173 R_174 H_175 S
      refine wpList_nil ?_
      exact RPost.mk_ S rfl S0 ⟨_, rfl, R_174, H_175⟩ (Below.refl _ _)
    refine RunAll.cons (isI .u8 y_61) [(isEl (.int .u8) (Kx K w.heap.size [some b_1]) y_61, 30)] rfl rfl ?_ ?_
    · intro W_ hW
      have S1 := S
      rintro _ ⟨p_178, rfl, R_179, H_180⟩
      replace S1 := S1.put (by decide : 30 < 36) (.pointer (some p_178))
      refine fill_nil S1 ?_; clear S1; intro a_ S1
      have S0 := S.defers; replace S := S1; clear S1
      refine w_go S rfl (op_load (t := (.int .u8)) (x := y_61) S rfl ty5 rfl rfl rfl R_179 ?_)
      clear S; intro a v_181 R_182 S
      obtain ⟨rfl, GR_182⟩ := RepV.int R_182
      refine wpList_nil ?_
      exact RPost.mk_ S rfl S0 ⟨rfl, GR_182⟩ (Below.refl _ _)
    refine RunAll.cons (isRep (.sl (.int .u8)) (Kx K w.heap.size [some b_1]) x0) [] rfl rfl ?_ ?_
    · intro W_ hW
      have S1 := S
      refine fill_nil S1 ?_; clear S1; intro a_ S1
      replace R0 := R0.step hW
      have S0 := S.defers; replace S := S1; clear S1
      refine wl_pure (l' := [(32, v0), (2, .pointer (some (⟨b_1, 0, .none⟩ : Addr))), (0, v0)]) S tys tys_ok 1 (by kernel_rfl) ?_; clear S; intro a S
      refine wpList_nil ?_
      exact RPost.mk_ S rfl S0 R0 (Below.refl _ _)
    refine RunAll.cons (isEl (.int .u8) (Kx K w.heap.size [some b_1]) y_67) [(isRep (.sl (.int .u8)) (Kx K w.heap.size [some b_1]) x0, 32)] rfl rfl ?_ ?_
    · intro W_ hW
      have S1 := S
      intro v_184 hF_183; replace hF_183 : RepV _ _ _ _ _ := hF_183
      replace S1 := S1.put (by decide : 32 < 36) (v_184)
      refine fill_nil S1 ?_; clear S1; intro a_ S1
      replace W := W.step hW
      have S0 := S.defers; replace S := S1; clear S1
      refine w_go S rfl (op_indexAddr S rfl ty23 rfl rfl rfl hF_183 rfl ey_67 ?_)
      clear S; intro a p_185 R_186 H_187 S
      refine wpList_nil ?_
      exact RPost.mk_ S rfl S0 ⟨_, rfl, R_186, H_187⟩ (Below.refl _ _)
    refine RunAll.cons (isI .u8 y_67) [(isEl (.int .u8) (Kx K w.heap.size [some b_1]) y_67, 33)] rfl rfl ?_ ?_
    · intro W_ hW
      have S1 := S
      rintro _ ⟨p_190, rfl, R_191, H_192⟩
      replace S1 := S1.put (by decide : 33 < 36) (.pointer (some p_190))
      refine fill_nil S1 ?_; clear S1; intro a_ S1
      have S0 := S.defers; replace S := S1; clear S1
      refine w_go S rfl (op_load (t := (.int .u8)) (x := y_67) S rfl ty5 rfl rfl rfl R_191 ?_)
      clear S; intro a v_193 R_194 S
      obtain ⟨rfl, GR_194⟩ := RepV.int R_194
      refine wpList_nil ?_
      exact RPost.mk_ S rfl S0 ⟨rfl, GR_194⟩ (Below.refl _ _)
    refine RunAll.cons (isRep (.st (.pair (.int .u16) (.pair (.int .u8) (.pair (.int .u8) (.pair (.int .u8) (.pair (.int .u8) (.pair (.int .u16) (.pair (.int .u16) (.pair (.int .u16) (.pair (.int .u8) (.pair (.int .u8) (.pair (.int .u8) (.int .u8))))))))))))) (Kx K w.heap.size [some b_1]) (t_5, y_10, y_16, y_22, y_28, t_34, t_39, t_44, y_49, y_55, y_61, y_67)) [(isI .u16 t_5, 4), (isI .u8 y_10, 7), (isI .u8 y_16, 10), (isI .u8 y_22, 13), (isI .u8 y_28, 16), (isI .u16 t_34, 18), (isI .u16 t_39, 20), (isI .u16 t_44, 22), (isI .u8 y_49, 25), (isI .u8 y_55, 28), (isI .u8 y_61, 31), (isI .u8 y_67, 34)] rfl rfl ?_ ?_
    · intro W_ hW
      have S1 := S
      rintro _ ⟨rfl, hF_195⟩
      replace S1 := S1.put (by decide : 4 < 36) (.int .u16 t_5)
      rintro _ ⟨rfl, hF_197⟩
      replace S1 := S1.put (by decide : 7 < 36) (.int .u8 y_10)
      rintro _ ⟨rfl, hF_199⟩
      replace S1 := S1.put (by decide : 10 < 36) (.int .u8 y_16)
      rintro _ ⟨rfl, hF_201⟩
      replace S1 := S1.put (by decide : 13 < 36) (.int .u8 y_22)
      rintro _ ⟨rfl, hF_203⟩
      replace S1 := S1.put (by decide : 16 < 36) (.int .u8 y_28)
      rintro _ ⟨rfl, hF_205⟩
      replace S1 := S1.put (by decide : 18 < 36) (.int .u16 t_34)
      rintro _ ⟨rfl, hF_207⟩
      replace S1 := S1.put (by decide : 20 < 36) (.int .u16 t_39)
      rintro _ ⟨rfl, hF_209⟩
      replace S1 := S1.put (by decide : 22 < 36) (.int .u16 t_44)
      rintro _ ⟨rfl, hF_211⟩
      replace S1 := S1.put (by decide : 25 < 36) (.int .u8 y_49)
      rintro _ ⟨rfl, hF_213⟩
      replace S1 := S1.put (by decide : 28 < 36) (.int .u8 y_55)
      rintro _ ⟨rfl, hF_215⟩
      replace S1 := S1.put (by decide : 31 < 36) (.int .u8 y_61)
      rintro _ ⟨rfl, hF_217⟩
      replace S1 := S1.put (by decide : 34 < 36) (.int .u8 y_67)
      refine fill_nil S1 ?_; clear S1; intro a_ S1
      have S0 := S.defers; replace S := S1; clear S1
      refine w_go S rfl (op_build (K := (Kx K w.heap.size [some b_1])) (f := (.pair (.int .u16) (.pair (.int .u8) (.pair (.int .u8) (.pair (.int .u8) (.pair (.int .u8) (.pair (.int .u16) (.pair (.int .u16) (.pair (.int .u16) (.pair (.int .u8) (.pair (.int .u8) (.pair (.int .u8) (.int .u8))))))))))))) (z0 := (0, 0, 0, 0, 0, 0, 0, 0, 0, 0, 0, 0)) (x := (t_5, y_10, y_16, y_22, y_28, t_34, t_39, t_44, y_49, y_55, y_61, y_67)) (vs := [.int .u16 t_5, .int .u8 y_10, .int .u8 y_16, .int .u8 y_22, .int .u8 y_28, .int .u16 t_34, .int .u16 t_39, .int .u16 t_44, .int .u8 y_49, .int .u8 y_55, .int .u8 y_61, .int .u8 y_67]) S _ rfl ty47 z47 (fun w K => ⟨[.int .u16 0], [.int .u8 0, .int .u8 0, .int .u8 0, .int .u8 0, .int .u16 0, .int .u16 0, .int .u16 0, .int .u8 0, .int .u8 0, .int .u8 0, .int .u8 0], rfl, ⟨rfl, by decide⟩, ⟨[.int .u8 0], [.int .u8 0, .int .u8 0, .int .u8 0, .int .u16 0, .int .u16 0, .int .u16 0, .int .u8 0, .int .u8 0, .int .u8 0, .int .u8 0], rfl, ⟨rfl, by decide⟩, ⟨[.int .u8 0], [.int .u8 0, .int .u8 0, .int .u16 0, .int .u16 0, .int .u16 0, .int .u8 0, .int .u8 0, .int .u8 0, .int .u8 0], rfl, ⟨rfl, by decide⟩, ⟨[.int .u8 0], [.int .u8 0, .int .u16 0, .int .u16 0, .int .u16 0, .int .u8 0, .int .u8 0, .int .u8 0, .int .u8 0], rfl, ⟨rfl, by decide⟩, ⟨[.int .u8 0], [.int .u16 0, .int .u16 0, .int .u16 0, .int .u8 0, .int .u8 0, .int .u8 0, .int .u8 0], rfl, ⟨rfl, by decide⟩, ⟨[.int .u16 0], [.int .u16 0, .int .u16 0, .int .u8 0, .int .u8 0, .int .u8 0, .int .u8 0], rfl, ⟨rfl, by decide⟩, ⟨[.int .u16 0], [.int .u16 0, .int .u8 0, .int .u8 0, .int .u8 0, .int .u8 0], rfl, ⟨rfl, by decide⟩, ⟨[.int .u16 0], [.int .u8 0, .int .u8 0, .int .u8 0, .int .u8 0], rfl, ⟨rfl, by decide⟩, ⟨[.int .u8 0], [.int .u8 0, .int .u8 0, .int .u8 0], rfl, ⟨rfl, by decide⟩, ⟨[.int .u8 0], [.int .u8 0, .int .u8 0], rfl, ⟨rfl, by decide⟩, ⟨[.int .u8 0], [.int .u8 0], rfl, ⟨rfl, by decide⟩, ⟨rfl, by decide⟩⟩⟩⟩⟩⟩⟩⟩⟩⟩⟩⟩) rfl rfl rfl [(0, .int .u16 t_5), (1, .int .u8 y_10), (2, .int .u8 y_16), (3, .int .u8 y_22), (4, .int .u8 y_28), (5, .int .u16 t_34), (6, .int .u16 t_39), (7, .int .u16 t_44), (8, .int .u8 y_49), (9, .int .u8 y_55), (10, .int .u8 y_61), (11, .int .u8 y_67)] rfl ⟨_, (RepV.mkInt hF_195), rfl, rfl, ⟨_, (RepV.mkInt hF_197), rfl, rfl, ⟨_, (RepV.mkInt hF_199), rfl, rfl, ⟨_, (RepV.mkInt hF_201), rfl, rfl, ⟨_, (RepV.mkInt hF_203), rfl, rfl, ⟨_, (RepV.mkInt hF_205), rfl, rfl, ⟨_, (RepV.mkInt hF_207), rfl, rfl, ⟨_, (RepV.mkInt hF_209), rfl, rfl, ⟨_, (RepV.mkInt hF_211), rfl, rfl, ⟨_, (RepV.mkInt hF_213), rfl, rfl, ⟨_, (RepV.mkInt hF_215), rfl, rfl, ⟨_, (RepV.mkInt hF_217), rfl, rfl, rfl⟩⟩⟩⟩⟩⟩⟩⟩⟩⟩⟩⟩ ?_)
      clear S; intro a v_219 R_220 S
      refine wpList_nil ?_
      exact RPost.mk_ S rfl S0 R_220 (Below.refl _ _)
    exact trivial
  intro w_221 hb_222
  refine EndE.some_ rfl ?_
  intro v_224 hF_223; replace hF_223 : RepV _ _ _ _ _ := hF_223
  replace S := S.put (by decide : 3 < 36) (v_224)
  refine EndE.some_ rfl ?_
  rintro _ ⟨rfl, hF_225⟩
  replace S := S.put (by decide : 4 < 36) (.int .u16 t_5)
  refine EndE.some_ rfl ?_
  intro v_228 hF_227; replace hF_227 : RepV _ _ _ _ _ := hF_227
  replace S := S.put (by decide : 5 < 36) (v_228)
  refine EndE.some_ rfl ?_
  rintro _ ⟨p_231, rfl, R_232, H_233⟩
  replace S := S.put (by decide : 6 < 36) (.pointer (some p_231))
  refine EndE.some_ rfl ?_
  rintro _ ⟨rfl, hF_234⟩
  replace S := S.put (by decide : 7 < 36) (.int .u8 y_10)
  refine EndE.some_ rfl ?_
  intro v_237 hF_236; replace hF_236 : RepV _ _ _ _ _ := hF_236
  replace S := S.put (by decide : 8 < 36) (v_237)
  refine EndE.some_ rfl ?_
  rintro _ ⟨p_240, rfl, R_241, H_242⟩
  replace S := S.put (by decide : 9 < 36) (.pointer (some p_240))
  refine EndE.some_ rfl ?_
  rintro _ ⟨rfl, hF_243⟩
  replace S := S.put (by decide : 10 < 36) (.int .u8 y_16)
  refine EndE.some_ rfl ?_
  intro v_246 hF_245; replace hF_245 : RepV _ _ _ _ _ := hF_245
  replace S := S.put (by decide : 11 < 36) (v_246)
  refine EndE.some_ rfl ?_
  rintro _ ⟨p_249, rfl, R_250, H_251⟩
  replace S := S.put (by decide : 12 < 36) (.pointer (some p_249))
  refine EndE.some_ rfl ?_
  rintro _ ⟨rfl, hF_252⟩
  replace S := S.put (by decide : 13 < 36) (.int .u8 y_22)
  refine EndE.some_ rfl ?_
  intro v_255 hF_254; replace hF_254 : RepV _ _ _ _ _ := hF_254
  replace S := S.put (by decide : 14 < 36) (v_255)
  refine EndE.some_ rfl ?_
  rintro _ ⟨p_258, rfl, R_259, H_260⟩
  replace S := S.put (by decide : 15 < 36) (.pointer (some p_258))
  refine EndE.some_ rfl ?_
  rintro _ ⟨rfl, hF_261⟩
  replace S := S.put (by decide : 16 < 36) (.int .u8 y_28)
  refine EndE.some_ rfl ?_
  intro v_264 hF_263; replace hF_263 : RepV _ _ _ _ _ := hF_263
  replace S := S.put (by decide : 17 < 36) (v_264)
  refine EndE.some_ rfl ?_
  rintro _ ⟨rfl, hF_265⟩
  replace S := S.put (by decide : 18 < 36) (.int .u16 t_34)
  refine EndE.some_ rfl ?_
  intro v_268 hF_267; replace hF_267 : RepV _ _ _ _ _ := hF_267
  replace S := S.put (by decide : 19 < 36) (v_268)
  refine EndE.some_ rfl ?_
  rintro _ ⟨rfl, hF_269⟩
  replace S := S.put (by decide : 20 < 36) (.int .u16 t_39)
  refine EndE.some_ rfl ?_
  intro v_272 hF_271; replace hF_271 : RepV _ _ _ _ _ := hF_271
  replace S := S.put (by decide : 21 < 36) (v_272)
  refine EndE.some_ rfl ?_
  rintro _ ⟨rfl, hF_273⟩
  replace S := S.put (by decide : 22 < 36) (.int .u16 t_44)
  refine EndE.some_ rfl ?_
  intro v_276 hF_275; replace hF_275 : RepV _ _ _ _ _ := hF_275
  replace S := S.put (by decide : 23 < 36) (v_276)
  refine EndE.some_ rfl ?_
  rintro _ ⟨p_279, rfl, R_280, H_281⟩
  replace S := S.put (by decide : 24 < 36) (.pointer (some p_279))
  refine EndE.some_ rfl ?_
  rintro _ ⟨rfl, hF_282⟩
  replace S := S.put (by decide : 25 < 36) (.int .u8 y_49)
  refine EndE.some_ rfl ?_
  intro v_285 hF_284; replace hF_284 : RepV _ _ _ _ _ := hF_284
  replace S := S.put (by decide : 26 < 36) (v_285)
  refine EndE.some_ rfl ?_
  rintro _ ⟨p_288, rfl, R_289, H_290⟩
  replace S := S.put (by decide : 27 < 36) (.pointer (some p_288))
  refine EndE.some_ rfl ?_
  rintro _ ⟨rfl, hF_291⟩
  replace S := S.put (by decide : 28 < 36) (.int .u8 y_55)
  refine EndE.some_ rfl ?_
  intro v_294 hF_293; replace hF_293 : RepV _ _ _ _ _ := hF_293
  replace S := S.put (by decide : 29 < 36) (v_294)
  refine EndE.some_ rfl ?_
  rintro _ ⟨p_297, rfl, R_298, H_299⟩
  replace S := S.put (by decide : 30 < 36) (.pointer (some p_297))
  refine EndE.some_ rfl ?_
  rintro _ ⟨rfl, hF_300⟩
  replace S := S.put (by decide : 31 < 36) (.int .u8 y_61)
  refine EndE.some_ rfl ?_
  intro v_303 hF_302; replace hF_302 : RepV _ _ _ _ _ := hF_302
  replace S := S.put (by decide : 32 < 36) (v_303)
  refine EndE.some_ rfl ?_
  rintro _ ⟨p_306, rfl, R_307, H_308⟩
  replace S := S.put (by decide : 33 < 36) (.pointer (some p_306))
  refine EndE.some_ rfl ?_
  rintro _ ⟨rfl, hF_309⟩
  replace S := S.put (by decide : 34 < 36) (.int .u8 y_67)
  refine EndE.some_ rfl ?_
  intro v_312 hF_311; replace hF_311 : RepV _ _ _ _ _ := hF_311
  replace S := S.put (by decide : 35 < 36) (v_312)
  refine endE_nil S ?_; clear S; intro a S
  replace R0 := R0.step hb_222
  replace B_2 := B_2.step hb_222
  replace W := W.step hb_222
  refine w_go S rfl (op_store (t' := (.st (.pair (.int .u16) (.pair (.int .u8) (.pair (.int .u8) (.pair (.int .u8) (.pair (.int .u8) (.pair (.int .u16) (.pair (.int .u16) (.pair (.int .u16) (.pair (.int .u8) (.pair (.int .u8) (.pair (.int .u8) (.int .u8)))))))))))))) S rfl rfl ty47 rfl rfl rfl B_2 (by simp) Ln.whole hF_311 ?_)
  intro w_313 hw_314 B_
  replace R0 := R0.wrote hw_314 (by simp)
  replace hF_223 := hF_223.wrote hw_314 (by simp)
  replace hF_227 := hF_227.wrote hw_314 (by simp)
  replace hF_236 := hF_236.wrote hw_314 (by simp)
  replace hF_245 := hF_245.wrote hw_314 (by simp)
  replace hF_254 := hF_254.wrote hw_314 (by simp)
  replace hF_263 := hF_263.wrote hw_314 (by simp)
  replace hF_267 := hF_267.wrote hw_314 (by simp)
  replace hF_271 := hF_271.wrote hw_314 (by simp)
  replace hF_275 := hF_275.wrote hw_314 (by simp)
  replace hF_284 := hF_284.wrote hw_314 (by simp)
  replace hF_293 := hF_293.wrote hw_314 (by simp)
  replace hF_302 := hF_302.wrote hw_314 (by simp)
  replace hF_311 := hF_311.wrote hw_314 (by simp)
  replace W := W.wrote hw_314 (by simp)
  replace B_2 : Bx (.st (.pair (.int .u16) (.pair (.int .u8) (.pair (.int .u8) (.pair (.int .u8) (.pair (.int .u8) (.pair (.int .u16) (.pair (.int .u16) (.pair (.int .u16) (.pair (.int .u8) (.pair (.int .u8) (.pair (.int .u8) (.int .u8))))))))))))) 47 w_313 (Kx K w.heap.size [some b_1]) b_1 (t_5, y_10, y_16, y_22, y_28, t_34, t_39, t_44, y_49, y_55, y_61, y_67) := B_; clear B_
  refine wpList_nil ?_
  refine then_n ?_
  replace S := S.sub (l' := [(2, .pointer (some (⟨b_1, 0, .none⟩ : Addr)))]) (by exact ⟨rfl, trivial⟩)
  refine wp_ret ?_
  obtain ⟨v_315, hr_316, R_317⟩ := res_cell (P := Try.prog) (T := 47) (t := (.st (.pair (.int .u16) (.pair (.int .u8) (.pair (.int .u8) (.pair (.int .u8) (.pair (.int .u8) (.pair (.int .u16) (.pair (.int .u16) (.pair (.int .u16) (.pair (.int .u8) (.pair (.int .u8) (.pair (.int .u8) (.int .u8)))))))))))))) (x := (t_5, y_10, y_16, y_22, y_28, t_34, t_39, t_44, y_49, y_55, y_61, y_67)) S (s := 2) rfl ty47 B_2.at_
  obtain rfl := Option.some.inj h
  exact b_res1 S rfl hr_316 ⟨_, rfl, R_317.out, W.below⟩
theorem cb54 : callB Try.prog 54 = true := by kernel_rfl
def p53 (n : Nat) (x0 : Sl (Int)) (x1 : Int) : Option ((Int × Int × Int × Int × Int × Int × Int × Int × Int × Int × Int × Int) × (Int)) :=
  if ((lenI x0) != x1) then (some ((0, 0, 0, 0, 0, 0, 0, 0, 0, 0, 0, 0), 5)) else (p54 n x0).bind fun t_17 => (p16 n t_17).bind fun t_30 => (if (t_30.2 != 0) = false then (p55 n t_30.1 x0).bind fun t_38 => some (!t_38) else some true).bind fun q_37 => if q_37 then (some ((0, 0, 0, 0, 0, 0, 0, 0, 0, 0, 0, 0), 4)) else some (t_17, 0)
set_option maxHeartbeats 4000000 in
set_option maxRecDepth 100000 in
/-- plugboard/descriptors.decode[plugboard/descriptors.Device] -/
theorem c53 (K : Nat → Prop) (n : Nat) (w : World) (x0 : Sl (Int)) (v0 : Value) (R0 : RepV (.sl (.int .u8)) w K v0 x0) (x1 : Int) (G1 : InR .i64 x1) {r : (Int × Int × Int × Int × Int × Int × Int × Int × Int × Int × Int × Int) × (Int)} (h : p53 n x0 x1 = some r) :
    Calls Try.prog 53 #[v0, .int .i64 x1, .func (.func 54) #[] #[], .func (.func 16) #[] #[]] w (Ret2 (.st (.pair (.int .u16) (.pair (.int .u8) (.pair (.int .u8) (.pair (.int .u8) (.pair (.int .u8) (.pair (.int .u16) (.pair (.int .u16) (.pair (.int .u16) (.pair (.int .u8) (.pair (.int .u8) (.pair (.int .u8) (.int .u8))))))))))))) (.int .i64) w (Kx K w.heap.size []) r) := by
  refine enter (args := [v0, .int .i64 x1, .func (.func 54) #[] #[], .func (.func 16) #[] #[]]) Try.func53 rfl 38 rfl rfl fun a S => ?_
  have W := Wd.start w
  replace R0 := R0.arg
  unfold p53 at h
  replace S : St 38 a [(0, v0), (1, .int .i64 x1), (2, .func (.func 54) #[] #[]), (3, .func (.func 16) #[] #[])] := S
  refine wp_seq ?_
  refine wp_region_lit ?_
  refine w_go S rfl (op_alloc (K := K) (n := w.heap.size) (L := []) (t := (.st (.pair (.int .u16) (.pair (.int .u8) (.pair (.int .u8) (.pair (.int .u8) (.pair (.int .u8) (.pair (.int .u16) (.pair (.int .u16) (.pair (.int .u16) (.pair (.int .u8) (.pair (.int .u8) (.pair (.int .u8) (.int .u8)))))))))))))) (y := (0, 0, 0, 0, 0, 0, 0, 0, 0, 0, 0, 0)) S rfl rfl rfl _ z47 (fun w K => ⟨[.int .u16 0], [.int .u8 0, .int .u8 0, .int .u8 0, .int .u8 0, .int .u16 0, .int .u16 0, .int .u16 0, .int .u8 0, .int .u8 0, .int .u8 0, .int .u8 0], rfl, ⟨rfl, by decide⟩, ⟨[.int .u8 0], [.int .u8 0, .int .u8 0, .int .u8 0, .int .u16 0, .int .u16 0, .int .u16 0, .int .u8 0, .int .u8 0, .int .u8 0, .int .u8 0], rfl, ⟨rfl, by decide⟩, ⟨[.int .u8 0], [.int .u8 0, .int .u8 0, .int .u16 0, .int .u16 0, .int .u16 0, .int .u8 0, .int .u8 0, .int .u8 0, .int .u8 0], rfl, ⟨rfl, by decide⟩, ⟨[.int .u8 0], [.int .u8 0, .int .u16 0, .int .u16 0, .int .u16 0, .int .u8 0, .int .u8 0, .int .u8 0, .int .u8 0], rfl, ⟨rfl, by decide⟩, ⟨[.int .u8 0], [.int .u16 0, .int .u16 0, .int .u16 0, .int .u8 0, .int .u8 0, .int .u8 0, .int .u8 0], rfl, ⟨rfl, by decide⟩, ⟨[.int .u16 0], [.int .u16 0, .int .u16 0, .int .u8 0, .int .u8 0, .int .u8 0, .int .u8 0], rfl, ⟨rfl, by decide⟩, ⟨[.int .u16 0], [.int .u16 0, .int .u8 0, .int .u8 0, .int .u8 0, .int .u8 0], rfl, ⟨rfl, by decide⟩, ⟨[.int .u16 0], [.int .u8 0, .int .u8 0, .int .u8 0, .int .u8 0], rfl, ⟨rfl, by decide⟩, ⟨[.int .u8 0], [.int .u8 0, .int .u8 0, .int .u8 0], rfl, ⟨rfl, by decide⟩, ⟨[.int .u8 0], [.int .u8 0, .int .u8 0], rfl, ⟨rfl, by decide⟩, ⟨[.int .u8 0], [.int .u8 0], rfl, ⟨rfl, by decide⟩, ⟨rfl, by decide⟩⟩⟩⟩⟩⟩⟩⟩⟩⟩⟩⟩) ?_)
  clear S; intro a w_3 b_1 hb_4 B_2 S
  replace R0 := R0.box hb_4
  replace W := W.box hb_4
  refine wl_pure (l' := [(9, .int .i64 0), (8, .pointer (some (⟨b_1, 0, .none⟩ : Addr))), (0, v0), (1, .int .i64 x1), (2, .func (.func 54) #[] #[]), (3, .func (.func 16) #[] #[])]) S tys tys_ok 1 (by kernel_rfl) ?_
  clear S; intro a S
  refine wpList_nil ?_
  refine then_n ?_
  replace S := S.sub (l' := [(8, .pointer (some (⟨b_1, 0, .none⟩ : Addr))), (0, v0), (1, .int .i64 x1), (2, .func (.func 54) #[] #[]), (3, .func (.func 16) #[] #[])]) (by exact ⟨rfl, rfl, rfl, rfl, rfl, trivial⟩)
  refine wp_seq ?_
  refine wp_region_lit ?_
  refine w_go S rfl (op_alloc (K := K) (n := w.heap.size) (L := [some b_1]) (t := (.st (.pair (.int .u16) (.pair (.int .u8) (.pair (.int .u8) (.pair (.int .u8) (.pair (.int .u8) (.pair (.int .u16) (.pair (.int .u16) (.pair (.int .u16) (.pair (.int .u8) (.pair (.int .u8) (.pair (.int .u8) (.int .u8)))))))))))))) (y := (0, 0, 0, 0, 0, 0, 0, 0, 0, 0, 0, 0)) S rfl rfl rfl _ z47 (fun w K => ⟨[.int .u16 0], [.int .u8 0, .int .u8 0, .int .u8 0, .int .u8 0, .int .u16 0, .int .u16 0, .int .u16 0, .int .u8 0, .int .u8 0, .int .u8 0, .int .u8 0], rfl, ⟨rfl, by decide⟩, ⟨[.int .u8 0], [.int .u8 0, .int .u8 0, .int .u8 0, .int .u16 0, .int .u16 0, .int .u16 0, .int .u8 0, .int .u8 0, .int .u8 0, .int .u8 0], rfl, ⟨rfl, by decide⟩, ⟨[.int .u8 0], [.int .u8 0, .int .u8 0, .int .u16 0, .int .u16 0, .int .u16 0, .int .u8 0, .int .u8 0, .int .u8 0, .int .u8 0], rfl, ⟨rfl, by decide⟩, ⟨[.int .u8 0], [.int .u8 0, .int .u16 0, .int .u16 0, .int .u16 0, .int .u8 0, .int .u8 0, .int .u8 0, .int .u8 0], rfl, ⟨rfl, by decide⟩, ⟨[.int .u8 0], [.int .u16 0, .int .u16 0, .int .u16 0, .int .u8 0, .int .u8 0, .int .u8 0, .int .u8 0], rfl, ⟨rfl, by decide⟩, ⟨[.int .u16 0], [.int .u16 0, .int .u16 0, .int .u8 0, .int .u8 0, .int .u8 0, .int .u8 0], rfl, ⟨rfl, by decide⟩, ⟨[.int .u16 0], [.int .u16 0, .int .u8 0, .int .u8 0, .int .u8 0, .int .u8 0], rfl, ⟨rfl, by decide⟩, ⟨[.int .u16 0], [.int .u8 0, .int .u8 0, .int .u8 0, .int .u8 0], rfl, ⟨rfl, by decide⟩, ⟨[.int .u8 0], [.int .u8 0, .int .u8 0, .int .u8 0], rfl, ⟨rfl, by decide⟩, ⟨[.int .u8 0], [.int .u8 0, .int .u8 0], rfl, ⟨rfl, by decide⟩, ⟨[.int .u8 0], [.int .u8 0], rfl, ⟨rfl, by decide⟩, ⟨rfl, by decide⟩⟩⟩⟩⟩⟩⟩⟩⟩⟩⟩⟩) ?_)
  clear S; intro a w_7 b_5 hb_8 B_6 S
  replace R0 := R0.box hb_8
  replace B_2 := B_2.box hb_8
  replace W := W.box hb_8
  refine wpList_nil ?_
  refine then_n ?_
  refine wp_seq ?_
  refine wp_seq ?_
  refine wp_region_lit ?_
  refine wl_pure (l' := [(14, v0), (10, .pointer (some (⟨b_5, 0, .none⟩ : Addr))), (8, .pointer (some (⟨b_1, 0, .none⟩ : Addr))), (0, v0), (1, .int .i64 x1), (2, .func (.func 54) #[] #[]), (3, .func (.func 16) #[] #[])]) S tys tys_ok 1 (by kernel_rfl) ?_
  clear S; intro a S
  refine w_go S rfl (op_len (K := _) S rfl ty23 rfl rfl rfl R0 ?_)
  clear S; intro a G_9 S
  refine wl_pure (l' := [(17, .bool ((lenI x0) != x1)), (16, .int .i64 x1), (15, .int .i64 (lenI x0)), (14, v0), (10, .pointer (some (⟨b_5, 0, .none⟩ : Addr))), (8, .pointer (some (⟨b_1, 0, .none⟩ : Addr))), (0, v0), (1, .int .i64 x1), (2, .func (.func 54) #[] #[]), (3, .func (.func 16) #[] #[])]) S tys tys_ok 2 (by kernel_rfl) ?_
  clear S; intro a S
  refine wpList_nil ?_
  refine then_n ?_
  replace S := S.sub (l' := [(17, .bool ((lenI x0) != x1)), (10, .pointer (some (⟨b_5, 0, .none⟩ : Addr))), (8, .pointer (some (⟨b_1, 0, .none⟩ : Addr))), (0, v0), (2, .func (.func 54) #[] #[]), (3, .func (.func 16) #[] #[])]) (by exact ⟨rfl, rfl, rfl, rfl, rfl, rfl, trivial⟩)
  refine wp_cond_split (S.eval (show ev _ _ = some (.bool ((lenI x0) != x1)) from rfl)) ?_ ?_
  · intro hc
    rw [if_pos hc] at h
    refine wp_seq ?_
    refine wp_region_lit ?_
    refine w_go S rfl (op_load (t := (.st (.pair (.int .u16) (.pair (.int .u8) (.pair (.int .u8) (.pair (.int .u8) (.pair (.int .u8) (.pair (.int .u16) (.pair (.int .u16) (.pair (.int .u16) (.pair (.int .u8) (.pair (.int .u8) (.pair (.int .u8) (.int .u8)))))))))))))) (x := (0, 0, 0, 0, 0, 0, 0, 0, 0, 0, 0, 0)) S rfl ty47 rfl rfl rfl B_6.at_ ?_)
    clear S; intro a v_10 R_11 S
    refine w_go S rfl (op_store (t' := (.st (.pair (.int .u16) (.pair (.int .u8) (.pair (.int .u8) (.pair (.int .u8) (.pair (.int .u8) (.pair (.int .u16) (.pair (.int .u16) (.pair (.int .u16) (.pair (.int .u8) (.pair (.int .u8) (.pair (.int .u8) (.int .u8)))))))))))))) S rfl rfl ty47 rfl rfl rfl B_2 (by simp) Ln.whole R_11 ?_)
    intro w_12 hw_13 B_
    replace R0 := R0.wrote hw_13 (by simp)
    replace R_11 := R_11.wrote hw_13 (by simp)
    replace B_6 := B_6.wrote hw_13 (by simp) (W.bne (p := 0) (q := 1) (by decide) rfl rfl)
    replace W := W.wrote hw_13 (by simp)
    replace B_2 : Bx (.st (.pair (.int .u16) (.pair (.int .u8) (.pair (.int .u8) (.pair (.int .u8) (.pair (.int .u8) (.pair (.int .u16) (.pair (.int .u16) (.pair (.int .u16) (.pair (.int .u8) (.pair (.int .u8) (.pair (.int .u8) (.int .u8))))))))))))) 47 w_12 (Kx K w.heap.size [some b_5, some b_1]) b_1 (0, 0, 0, 0, 0, 0, 0, 0, 0, 0, 0, 0) := B_; clear B_
    refine wl_pure (l' := [(9, .int .i64 5), (18, v_10), (17, .bool ((lenI x0) != x1)), (10, .pointer (some (⟨b_5, 0, .none⟩ : Addr))), (8, .pointer (some (⟨b_1, 0, .none⟩ : Addr))), (0, v0), (2, .func (.func 54) #[] #[]), (3, .func (.func 16) #[] #[])]) S tys tys_ok 1 (by kernel_rfl) ?_
    clear S; intro a S
    refine wpList_nil ?_
    refine then_n ?_
    replace S := S.sub (l' := [(9, .int .i64 5), (8, .pointer (some (⟨b_1, 0, .none⟩ : Addr)))]) (by exact ⟨rfl, rfl, trivial⟩)
    refine wp_ret ?_
    refine then_r ?_
    obtain ⟨v_14, hr_15, R_16⟩ := res_cell (P := Try.prog) (T := 47) (t := (.st (.pair (.int .u16) (.pair (.int .u8) (.pair (.int .u8) (.pair (.int .u8) (.pair (.int .u8) (.pair (.int .u16) (.pair (.int .u16) (.pair (.int .u16) (.pair (.int .u8) (.pair (.int .u8) (.pair (.int .u8) (.int .u8)))))))))))))) (x := (0, 0, 0, 0, 0, 0, 0, 0, 0, 0, 0, 0)) S (s := 8) rfl ty47 B_2.at_
    obtain rfl := Option.some.inj h
    exact b_res2 S rfl hr_15 (res_tmp S rfl) ⟨_, _, rfl, R_16.out, (RepV.mkInt (by decide)), W.below⟩
  · intro hc
    rw [if_neg (Bool.eq_false_iff.1 hc)] at h
    refine wp_skip ?_
    refine then_n ?_
    replace S := S.sub (l' := [(10, .pointer (some (⟨b_5, 0, .none⟩ : Addr))), (8, .pointer (some (⟨b_1, 0, .none⟩ : Addr))), (0, v0), (2, .func (.func 54) #[] #[]), (3, .func (.func 16) #[] #[])]) (by exact ⟨rfl, rfl, rfl, rfl, rfl, trivial⟩)
    refine wp_seq ?_
    refine wp_region_lit ?_
    refine wl_pure (l' := [(20, v0), (19, .func (.func 54) #[] #[]), (10, .pointer (some (⟨b_5, 0, .none⟩ : Addr))), (8, .pointer (some (⟨b_1, 0, .none⟩ : Addr))), (0, v0), (2, .func (.func 54) #[] #[]), (3, .func (.func 16) #[] #[])]) S tys tys_ok 2 (by kernel_rfl) ?_
    clear S; intro a S
    obtain ⟨t_17, et_17, h⟩ := bindS h
    refine w_go S rfl (op_calld (vs := [v0]) S rfl rfl cb54 rfl rfl rfl (c54 (Kx K w.heap.size [some b_5, some b_1]) n w_7 x0 _ R0 et_17) ?_)
    rintro _ w_21 ⟨v_18, rfl, R_19, hb_20⟩; refine ⟨_, rfl, ?_⟩
    replace R_19 := RepV.back R_19 W
    clear S; intro a S
    replace R0 := R0.step hb_20
    replace B_2 := B_2.step hb_20
    replace B_6 := B_6.step hb_20
    replace W := W.step hb_20
    refine w_go S rfl (op_alloc (K := K) (n := w.heap.size) (L := [some b_5, some b_1]) (t := (.st (.pair (.int .u16) (.pair (.int .u8) (.pair (.int .u8) (.pair (.int .u8) (.pair (.int .u8) (.pair (.int .u16) (.pair (.int .u16) (.pair (.int .u16) (.pair (.int .u8) (.pair (.int .u8) (.pair (.int .u8) (.int .u8)))))))))))))) (y := (0, 0, 0, 0, 0, 0, 0, 0, 0, 0, 0, 0)) S rfl rfl rfl _ z47 (fun w K => ⟨[.int .u16 0], [.int .u8 0, .int .u8 0, .int .u8 0, .int .u8 0, .int .u16 0, .int .u16 0, .int .u16 0, .int .u8 0, .int .u8 0, .int .u8 0, .int .u8 0], rfl, ⟨rfl, by decide⟩, ⟨[.int .u8 0], [.int .u8 0, .int .u8 0, .int .u8 0, .int .u16 0, .int .u16 0, .int .u16 0, .int .u8 0, .int .u8 0, .int .u8 0, .int .u8 0], rfl, ⟨rfl, by decide⟩, ⟨[.int .u8 0], [.int .u8 0, .int .u8 0, .int .u16 0, .int .u16 0, .int .u16 0, .int .u8 0, .int .u8 0, .int .u8 0, .int .u8 0], rfl, ⟨rfl, by decide⟩, ⟨[.int .u8 0], [.int .u8 0, .int .u16 0, .int .u16 0, .int .u16 0, .int .u8 0, .int .u8 0, .int .u8 0, .int .u8 0], rfl, ⟨rfl, by decide⟩, ⟨[.int .u8 0], [.int .u16 0, .int .u16 0, .int .u16 0, .int .u8 0, .int .u8 0, .int .u8 0, .int .u8 0], rfl, ⟨rfl, by decide⟩, ⟨[.int .u16 0], [.int .u16 0, .int .u16 0, .int .u8 0, .int .u8 0, .int .u8 0, .int .u8 0], rfl, ⟨rfl, by decide⟩, ⟨[.int .u16 0], [.int .u16 0, .int .u8 0, .int .u8 0, .int .u8 0, .int .u8 0], rfl, ⟨rfl, by decide⟩, ⟨[.int .u16 0], [.int .u8 0, .int .u8 0, .int .u8 0, .int .u8 0], rfl, ⟨rfl, by decide⟩, ⟨[.int .u8 0], [.int .u8 0, .int .u8 0, .int .u8 0], rfl, ⟨rfl, by decide⟩, ⟨[.int .u8 0], [.int .u8 0, .int .u8 0], rfl, ⟨rfl, by decide⟩, ⟨[.int .u8 0], [.int .u8 0], rfl, ⟨rfl, by decide⟩, ⟨rfl, by decide⟩⟩⟩⟩⟩⟩⟩⟩⟩⟩⟩⟩) ?_)
    clear S; intro a w_24 b_22 hb_25 B_23 S
    replace R0 := R0.box hb_25
    replace R_19 := R_19.box hb_25
    replace B_2 := B_2.box hb_25
    replace B_6 := B_6.box hb_25
    replace W := W.box hb_25
    refine w_go S rfl (op_store (t' := (.st (.pair (.int .u16) (.pair (.int .u8) (.pair (.int .u8) (.pair (.int .u8) (.pair (.int .u8) (.pair (.int .u16) (.pair (.int .u16) (.pair (.int .u16) (.pair (.int .u8) (.pair (.int .u8) (.pair (.int .u8) (.int .u8)))))))))))))) S rfl rfl ty47 rfl rfl rfl B_23 (by simp) Ln.whole R_19 ?_)
    intro w_26 hw_27 B_
    replace R0 := R0.wrote hw_27 (by simp)
    replace R_19 := R_19.wrote hw_27 (by simp)
    replace B_2 := B_2.wrote hw_27 (by simp) (W.bne (p := 2) (q := 0) (by decide) rfl rfl)
    replace B_6 := B_6.wrote hw_27 (by simp) (W.bne (p := 1) (q := 0) (by decide) rfl rfl)
    replace W := W.wrote hw_27 (by simp)
    replace B_23 : Bx (.st (.pair (.int .u16) (.pair (.int .u8) (.pair (.int .u8) (.pair (.int .u8) (.pair (.int .u8) (.pair (.int .u16) (.pair (.int .u16) (.pair (.int .u16) (.pair (.int .u8) (.pair (.int .u8) (.pair (.int .u8) (.int .u8))))))))))))) 47 w_26 (Kx K w.heap.size [some b_22, some b_5, some b_1]) b_22 t_17 := B_; clear B_
    refine wpList_nil ?_
    refine then_n ?_
    replace S := S.sub (l' := [(11, .pointer (some (⟨b_22, 0, .none⟩ : Addr))), (10, .pointer (some (⟨b_5, 0, .none⟩ : Addr))), (8, .pointer (some (⟨b_1, 0, .none⟩ : Addr))), (0, v0), (3, .func (.func 16) #[] #[])]) (by exact ⟨rfl, rfl, rfl, rfl, rfl, trivial⟩)
    refine wp_seq ?_
    refine wp_seq ?_
    refine wp_region_lit ?_
    refine wl_pure (l' := [(23, .func (.func 16) #[] #[]), (11, .pointer (some (⟨b_22, 0, .none⟩ : Addr))), (10, .pointer (some (⟨b_5, 0, .none⟩ : Addr))), (8, .pointer (some (⟨b_1, 0, .none⟩ : Addr))), (0, v0), (3, .func (.func 16) #[] #[])]) S tys tys_ok 1 (by kernel_rfl) ?_
    clear S; intro a S
    refine w_go S rfl (op_load (t := (.st (.pair (.int .u16) (.pair (.int .u8) (.pair (.int .u8) (.pair (.int .u8) (.pair (.int .u8) (.pair (.int .u16) (.pair (.int .u16) (.pair (.int .u16) (.pair (.int .u8) (.pair (.int .u8) (.pair (.int .u8) (.int .u8)))))))))))))) (x := t_17) S rfl ty47 rfl rfl rfl B_23.at_ ?_)
    clear S; intro a v_28 R_29 S
    obtain ⟨t_30, et_30, h⟩ := bindS h
    refine w_go S rfl (op_calld (vs := [v_28]) S rfl rfl cb16 rfl rfl rfl (c16 (Kx K w.heap.size [some b_22, some b_5, some b_1]) n w_26 t_17 _ R_29 et_30) ?_)
    rintro _ w_36 ⟨v_31, v_32, rfl, R_33, R_34, hb_35⟩; refine ⟨_, rfl, ?_⟩
    replace R_33 := RepV.back R_33 W
    replace R_34 := RepV.back R_34 W
    clear S; intro a S
    replace R0 := R0.step hb_35
    replace R_29 := R_29.step hb_35
    replace B_2 := B_2.step hb_35
    replace B_6 := B_6.step hb_35
    replace B_23 := B_23.step hb_35
    replace W := W.step hb_35
    obtain ⟨rfl, GR_34⟩ := RepV.int R_34
    refine wl_pure (l' := [(13, .int .i64 t_30.2), (12, v_31), (27, .int .i64 t_30.2), (26, v_31), (22, .tuple #[v_31, .int .i64 t_30.2]), (25, .tuple #[v_31, .int .i64 t_30.2]), (24, v_28), (23, .func (.func 16) #[] #[]), (11, .pointer (some (⟨b_22, 0, .none⟩ : Addr))), (10, .pointer (some (⟨b_5, 0, .none⟩ : Addr))), (8, .pointer (some (⟨b_1, 0, .none⟩ : Addr))), (0, v0), (3, .func (.func 16) #[] #[])]) S tys tys_ok 5 (by kernel_rfl) ?_
    clear S; intro a S
    refine wpList_nil ?_
    refine then_n ?_
    replace S := S.sub (l' := [(13, .int .i64 t_30.2), (12, v_31), (11, .pointer (some (⟨b_22, 0, .none⟩ : Addr))), (10, .pointer (some (⟨b_5, 0, .none⟩ : Addr))), (8, .pointer (some (⟨b_1, 0, .none⟩ : Addr))), (0, v0)]) (by exact ⟨rfl, rfl, rfl, rfl, rfl, rfl, trivial⟩)
    refine wp_seq ?_
    refine wp_region_lit ?_
    refine wl_pure (l' := [(30, .bool (t_30.2 != 0)), (29, .bool (t_30.2 != 0)), (28, .int .i64 t_30.2), (13, .int .i64 t_30.2), (12, v_31), (11, .pointer (some (⟨b_22, 0, .none⟩ : Addr))), (10, .pointer (some (⟨b_5, 0, .none⟩ : Addr))), (8, .pointer (some (⟨b_1, 0, .none⟩ : Addr))), (0, v0)]) S tys tys_ok 3 (by kernel_rfl) ?_
    clear S; intro a S
    obtain ⟨q_37, eq_37, h⟩ := bindS h
    refine seg 5 (fun a_ w_ => St 38 a_ [(35, .bool q_37), (11, .pointer (some (⟨b_22, 0, .none⟩ : Addr))), (10, .pointer (some (⟨b_5, 0, .none⟩ : Addr))), (8, .pointer (some (⟨b_1, 0, .none⟩ : Addr)))] ∧ Wd w w_ [some b_22, some b_5, some b_1] ∧ Bx (.st (.pair (.int .u16) (.pair (.int .u8) (.pair (.int .u8) (.pair (.int .u8) (.pair (.int .u8) (.pair (.int .u16) (.pair (.int .u16) (.pair (.int .u16) (.pair (.int .u8) (.pair (.int .u8) (.pair (.int .u8) (.int .u8))))))))))))) 47 w_ (Kx K w.heap.size [some b_22, some b_5, some b_1]) b_1 (0, 0, 0, 0, 0, 0, 0, 0, 0, 0, 0, 0) ∧ Bx (.st (.pair (.int .u16) (.pair (.int .u8) (.pair (.int .u8) (.pair (.int .u8) (.pair (.int .u8) (.pair (.int .u16) (.pair (.int .u16) (.pair (.int .u16) (.pair (.int .u8) (.pair (.int .u8) (.pair (.int .u8) (.int .u8))))))))))))) 47 w_ (Kx K w.heap.size [some b_22, some b_5, some b_1]) b_5 (0, 0, 0, 0, 0, 0, 0, 0, 0, 0, 0, 0) ∧ Bx (.st (.pair (.int .u16) (.pair (.int .u8) (.pair (.int .u8) (.pair (.int .u8) (.pair (.int .u8) (.pair (.int .u16) (.pair (.int .u16) (.pair (.int .u16) (.pair (.int .u8) (.pair (.int .u8) (.pair (.int .u8) (.int .u8))))))))))))) 47 w_ (Kx K w.heap.size [some b_22, some b_5, some b_1]) b_22 t_17) ?_ ?_
    · by_cases hc : (t_30.2 != 0) = false
      · rw [if_pos hc] at eq_37; rw [hc] at S
        refine wl_pure (l' := [(32, v0), (31, v_31), (30, .bool false), (29, .bool false), (28, .int .i64 t_30.2), (13, .int .i64 t_30.2), (12, v_31), (11, .pointer (some (⟨b_22, 0, .none⟩ : Addr))), (10, .pointer (some (⟨b_5, 0, .none⟩ : Addr))), (8, .pointer (some (⟨b_1, 0, .none⟩ : Addr))), (0, v0)]) S tys tys_ok 2 (by kernel_rfl) ?_
        clear S; intro a S
        obtain ⟨t_38, et_38, eq_37⟩ := bindS eq_37
        refine w_go S rfl (op_call (vs := [v_31, v0]) S rfl cb55 rfl rfl rfl (c55 (Kx K w.heap.size [some b_22, some b_5, some b_1]) n w_36 t_30.1 _ R_33 x0 _ R0 et_38) ?_)
        rintro _ w_42 ⟨v_39, rfl, R_40, hb_41⟩; refine ⟨_, rfl, ?_⟩
        replace R_40 := RepV.back R_40 W
        clear S; intro a S
        replace R_33 := R_33.step hb_41
        replace R0 := R0.step hb_41
        replace B_2 := B_2.step hb_41
        replace B_6 := B_6.step hb_41
        replace B_23 := B_23.step hb_41
        replace W := W.step hb_41
        obtain rfl := RepV.bool R_40
        refine wl_pure (l' := [(35, .bool (!t_38)), (34, .bool (!t_38)), (33, .bool t_38), (32, v0), (31, v_31), (30, .bool false), (29, .bool false), (28, .int .i64 t_30.2), (13, .int .i64 t_30.2), (12, v_31), (11, .pointer (some (⟨b_22, 0, .none⟩ : Addr))), (10, .pointer (some (⟨b_5, 0, .none⟩ : Addr))), (8, .pointer (some (⟨b_1, 0, .none⟩ : Addr))), (0, v0)]) S tys tys_ok 2 (by kernel_rfl) ?_
        clear S; intro a S
        obtain rfl := Option.some.inj eq_37
        exact ⟨S.sub (by exact ⟨rfl, rfl, rfl, rfl, trivial⟩), W, B_2, B_6, B_23⟩
      · rw [if_neg hc] at eq_37; rw [show (t_30.2 != 0) = true from (by simpa using hc)] at S
        refine wl_pure (l' := [(35, .bool true), (34, undef), (33, undef), (32, undef), (31, undef), (30, .bool true), (29, .bool true), (28, .int .i64 t_30.2), (13, .int .i64 t_30.2), (12, v_31), (11, .pointer (some (⟨b_22, 0, .none⟩ : Addr))), (10, .pointer (some (⟨b_5, 0, .none⟩ : Addr))), (8, .pointer (some (⟨b_1, 0, .none⟩ : Addr))), (0, v0)]) S tys tys_ok 5 (by kernel_rfl) ?_
        clear S; intro a S
        obtain rfl := Option.some.inj eq_37
        exact ⟨S.sub (by exact ⟨rfl, rfl, rfl, rfl, trivial⟩), W, B_2, B_6, B_23⟩
    clear S W eq_37; rintro a w_43 ⟨S, W, B_2, B_6, B_23⟩
    refine wpList_nil ?_
    refine then_n ?_
    refine wp_cond_split (S.eval (show ev _ _ = some (.bool q_37) from rfl)) ?_ ?_
    · intro hc
      rw [if_pos hc] at h
      refine wp_seq ?_
      refine wp_region_lit ?_
      refine w_go S rfl (op_load (t := (.st (.pair (.int .u16) (.pair (.int .u8) (.pair (.int .u8) (.pair (.int .u8) (.pair (.int .u8) (.pair (.int .u16) (.pair (.int .u16) (.pair (.int .u16) (.pair (.int .u8) (.pair (.int .u8) (.pair (.int .u8) (.int .u8)))))))))))))) (x := (0, 0, 0, 0, 0, 0, 0, 0, 0, 0, 0, 0)) S rfl ty47 rfl rfl rfl B_6.at_ ?_)
      clear S; intro a v_44 R_45 S
      refine w_go S rfl (op_store (t' := (.st (.pair (.int .u16) (.pair (.int .u8) (.pair (.int .u8) (.pair (.int .u8) (.pair (.int .u8) (.pair (.int .u16) (.pair (.int .u16) (.pair (.int .u16) (.pair (.int .u8) (.pair (.int .u8) (.pair (.int .u8) (.int .u8)))))))))))))) S rfl rfl ty47 rfl rfl rfl B_2 (by simp) Ln.whole R_45 ?_)
      intro w_46 hw_47 B_
      replace R_45 := R_45.wrote hw_47 (by simp)
      replace B_6 := B_6.wrote hw_47 (by simp) (W.bne (p := 1) (q := 2) (by decide) rfl rfl)
      replace B_23 := B_23.wrote hw_47 (by simp) (W.bne (p := 0) (q := 2) (by decide) rfl rfl)
      replace W := W.wrote hw_47 (by simp)
      replace B_2 : Bx (.st (.pair (.int .u16) (.pair (.int .u8) (.pair (.int .u8) (.pair (.int .u8) (.pair (.int .u8) (.pair (.int .u16) (.pair (.int .u16) (.pair (.int .u16) (.pair (.int .u8) (.pair (.int .u8) (.pair (.int .u8) (.int .u8))))))))))))) 47 w_46 (Kx K w.heap.size [some b_22, some b_5, some b_1]) b_1 (0, 0, 0, 0, 0, 0, 0, 0, 0, 0, 0, 0) := B_; clear B_
      refine wl_pure (l' := [(9, .int .i64 4), (36, v_44), (35, .bool q_37), (11, .pointer (some (⟨b_22, 0, .none⟩ : Addr))), (10, .pointer (some (⟨b_5, 0, .none⟩ : Addr))), (8, .pointer (some (⟨b_1, 0, .none⟩ : Addr)))]) S tys tys_ok 1 (by kernel_rfl) ?_
      clear S; intro a S
      refine wpList_nil ?_
      refine then_n ?_
      replace S := S.sub (l' := [(9, .int .i64 4), (8, .pointer (some (⟨b_1, 0, .none⟩ : Addr)))]) (by exact ⟨rfl, rfl, trivial⟩)
      refine wp_ret ?_
      refine then_r ?_
      obtain ⟨v_48, hr_49, R_50⟩ := res_cell (P := Try.prog) (T := 47) (t := (.st (.pair (.int .u16) (.pair (.int .u8) (.pair (.int .u8) (.pair (.int .u8) (.pair (.int .u8) (.pair (.int .u16) (.pair (.int .u16) (.pair (.int .u16) (.pair (.int .u8) (.pair (.int .u8) (.pair (.int .u8) (.int .u8)))))))))))))) (x := (0, 0, 0, 0, 0, 0, 0, 0, 0, 0, 0, 0)) S (s := 8) rfl ty47 B_2.at_
      obtain rfl := Option.some.inj h
      exact b_res2 S rfl hr_49 (res_tmp S rfl) ⟨_, _, rfl, R_50.out, (RepV.mkInt (by decide)), W.below⟩
    · intro hc
      rw [if_neg (Bool.eq_false_iff.1 hc)] at h
      refine wp_skip ?_
      refine then_n ?_
      replace S := S.sub (l' := [(11, .pointer (some (⟨b_22, 0, .none⟩ : Addr))), (8, .pointer (some (⟨b_1, 0, .none⟩ : Addr)))]) (by exact ⟨rfl, rfl, trivial⟩)
      refine wp_seq ?_
      refine wp_region_lit ?_
      refine w_go S rfl (op_load (t := (.st (.pair (.int .u16) (.pair (.int .u8) (.pair (.int .u8) (.pair (.int .u8) (.pair (.int .u8) (.pair (.int .u16) (.pair (.int .u16) (.pair (.int .u16) (.pair (.int .u8) (.pair (.int .u8) (.pair (.int .u8) (.int .u8)))))))))))))) (x := t_17) S rfl ty47 rfl rfl rfl B_23.at_ ?_)
      clear S; intro a v_51 R_52 S
      refine w_go S rfl (op_store (t' := (.st (.pair (.int .u16) (.pair (.int .u8) (.pair (.int .u8) (.pair (.int .u8) (.pair (.int .u8) (.pair (.int .u16) (.pair (.int .u16) (.pair (.int .u16) (.pair (.int .u8) (.pair (.int .u8) (.pair (.int .u8) (.int .u8)))))))))))))) S rfl rfl ty47 rfl rfl rfl B_2 (by simp) Ln.whole R_52 ?_)
      intro w_53 hw_54 B_
      replace R_52 := R_52.wrote hw_54 (by simp)
      replace B_6 := B_6.wrote hw_54 (by simp) (W.bne (p := 1) (q := 2) (by decide) rfl rfl)
      replace B_23 := B_23.wrote hw_54 (by simp) (W.bne (p := 0) (q := 2) (by decide) rfl rfl)
      replace W := W.wrote hw_54 (by simp)
      replace B_2 : Bx (.st (.pair (.int .u16) (.pair (.int .u8) (.pair (.int .u8) (.pair (.int .u8) (.pair (.int .u8) (.pair (.int .u16) (.pair (.int .u16) (.pair (.int .u16) (.pair (.int .u8) (.pair (.int .u8) (.pair (.int .u8) (.int .u8))))))))))))) 47 w_53 (Kx K w.heap.size [some b_22, some b_5, some b_1]) b_1 t_17 := B_; clear B_
      refine wl_pure (l' := [(9, .int .i64 0), (37, v_51), (11, .pointer (some (⟨b_22, 0, .none⟩ : Addr))), (8, .pointer (some (⟨b_1, 0, .none⟩ : Addr)))]) S tys tys_ok 1 (by kernel_rfl) ?_
      clear S; intro a S
      refine wpList_nil ?_
      refine then_n ?_
      replace S := S.sub (l' := [(9, .int .i64 0), (8, .pointer (some (⟨b_1, 0, .none⟩ : Addr)))]) (by exact ⟨rfl, rfl, trivial⟩)
      refine wp_ret ?_
      obtain ⟨v_55, hr_56, R_57⟩ := res_cell (P := Try.prog) (T := 47) (t := (.st (.pair (.int .u16) (.pair (.int .u8) (.pair (.int .u8) (.pair (.int .u8) (.pair (.int .u8) (.pair (.int .u16) (.pair (.int .u16) (.pair (.int .u16) (.pair (.int .u8) (.pair (.int .u8) (.pair (.int .u8) (.int .u8)))))))))))))) (x := t_17) S (s := 8) rfl ty47 B_2.at_
      obtain rfl := Option.some.inj h
      exact b_res2 S rfl hr_56 (res_tmp S rfl) ⟨_, _, rfl, R_57.out, (RepV.mkInt (by decide)), W.below⟩
theorem cb53 : callB Try.prog 53 = true := by kernel_rfl
def p34 (n : Nat) (x0 : Sl (Int)) : Option ((Int × Int × Int × Int × Int × Int × Int × Int × Int × Int × Int × Int) × (Int)) :=
  (p53 n x0 18).bind fun t_5 =>
  some (t_5.1, t_5.2)
set_option maxHeartbeats 4000000 in
set_option maxRecDepth 100000 in
/-- plugboard/descriptors.DecodeDevice -/
theorem c34 (K : Nat → Prop) (n : Nat) (w : World) (x0 : Sl (Int)) (v0 : Value) (R0 : RepV (.sl (.int .u8)) w K v0 x0) {r : (Int × Int × Int × Int × Int × Int × Int × Int × Int × Int × Int × Int) × (Int)} (h : p34 n x0 = some r) :
    Calls Try.prog 34 #[v0] w (Ret2 (.st (.pair (.int .u16) (.pair (.int .u8) (.pair (.int .u8) (.pair (.int .u8) (.pair (.int .u8) (.pair (.int .u16) (.pair (.int .u16) (.pair (.int .u16) (.pair (.int .u8) (.pair (.int .u8) (.pair (.int .u8) (.int .u8))))))))))))) (.int .i64) w (Kx K w.heap.size []) r) := by
  refine enter (args := [v0]) Try.func34 rfl 8 rfl rfl fun a S => ?_
  have W := Wd.start w
  replace R0 := R0.arg
  unfold p34 at h
  replace S : St 8 a [(0, v0)] := S
  refine wp_seq ?_
  refine wp_region_lit ?_
  refine w_go S rfl (op_alloc (K := K) (n := w.heap.size) (L := []) (t := (.st (.pair (.int .u16) (.pair (.int .u8) (.pair (.int .u8) (.pair (.int .u8) (.pair (.int .u8) (.pair (.int .u16) (.pair (.int .u16) (.pair (.int .u16) (.pair (.int .u8) (.pair (.int .u8) (.pair (.int .u8) (.int .u8)))))))))))))) (y := (0, 0, 0, 0, 0, 0, 0, 0, 0, 0, 0, 0)) S rfl rfl rfl _ z47 (fun w K => ⟨[.int .u16 0], [.int .u8 0, .int .u8 0, .int .u8 0, .int .u8 0, .int .u16 0, .int .u16 0, .int .u16 0, .int .u8 0, .int .u8 0, .int .u8 0, .int .u8 0], rfl, ⟨rfl, by decide⟩, ⟨[.int .u8 0], [.int .u8 0, .int .u8 0, .int .u8 0, .int .u16 0, .int .u16 0, .int .u16 0, .int .u8 0, .int .u8 0, .int .u8 0, .int .u8 0], rfl, ⟨rfl, by decide⟩, ⟨[.int .u8 0], [.int .u8 0, .int .u8 0, .int .u16 0, .int .u16 0, .int .u16 0, .int .u8 0, .int .u8 0, .int .u8 0, .int .u8 0], rfl, ⟨rfl, by decide⟩, ⟨[.int .u8 0], [.int .u8 0, .int .u16 0, .int .u16 0, .int .u16 0, .int .u8 0, .int .u8 0, .int .u8 0, .int .u8 0], rfl, ⟨rfl, by decide⟩, ⟨[.int .u8 0], [.int .u16 0, .int .u16 0, .int .u16 0, .int .u8 0, .int .u8 0, .int .u8 0, .int .u8 0], rfl, ⟨rfl, by decide⟩, ⟨[.int .u16 0], [.int .u16 0, .int .u16 0, .int .u8 0, .int .u8 0, .int .u8 0, .int .u8 0], rfl, ⟨rfl, by decide⟩, ⟨[.int .u16 0], [.int .u16 0, .int .u8 0, .int .u8 0, .int .u8 0, .int .u8 0], rfl, ⟨rfl, by decide⟩, ⟨[.int .u16 0], [.int .u8 0, .int .u8 0, .int .u8 0, .int .u8 0], rfl, ⟨rfl, by decide⟩, ⟨[.int .u8 0], [.int .u8 0, .int .u8 0, .int .u8 0], rfl, ⟨rfl, by decide⟩, ⟨[.int .u8 0], [.int .u8 0, .int .u8 0], rfl, ⟨rfl, by decide⟩, ⟨[.int .u8 0], [.int .u8 0], rfl, ⟨rfl, by decide⟩, ⟨rfl, by decide⟩⟩⟩⟩⟩⟩⟩⟩⟩⟩⟩⟩) ?_)
  clear S; intro a w_3 b_1 hb_4 B_2 S
  replace R0 := R0.box hb_4
  replace W := W.box hb_4
  refine wl_pure (l' := [(3, .int .i64 0), (2, .pointer (some (⟨b_1, 0, .none⟩ : Addr))), (0, v0)]) S tys tys_ok 1 (by kernel_rfl) ?_
  clear S; intro a S
  refine wpList_nil ?_
  refine then_n ?_
  replace S := S.sub (l' := [(2, .pointer (some (⟨b_1, 0, .none⟩ : Addr))), (0, v0)]) (by exact ⟨rfl, rfl, trivial⟩)
  refine wp_seq ?_
  refine wp_region_lit ?_
  refine wl_pure (l' := [(4, v0), (2, .pointer (some (⟨b_1, 0, .none⟩ : Addr))), (0, v0)]) S tys tys_ok 1 (by kernel_rfl) ?_
  clear S; intro a S
  obtain ⟨t_5, et_5, h⟩ := bindS h
  refine w_go S rfl (op_call (vs := [v0, .int .i64 18, .func (.func 54) #[] #[], .func (.func 16) #[] #[]]) S rfl cb53 rfl rfl rfl (c53 (Kx K w.heap.size [some b_1]) n w_3 x0 _ R0 18 (by decide) et_5) ?_)
  rintro _ w_11 ⟨v_6, v_7, rfl, R_8, R_9, hb_10⟩; refine ⟨_, rfl, ?_⟩
  replace R_8 := RepV.back R_8 W
  replace R_9 := RepV.back R_9 W
  clear S; intro a S
  replace R0 := R0.step hb_10
  replace B_2 := B_2.step hb_10
  replace W := W.step hb_10
  obtain ⟨rfl, GR_9⟩ := RepV.int R_9
  refine wl_pure (l' := [(7, .int .i64 t_5.2), (6, v_6), (5, .tuple #[v_6, .int .i64 t_5.2]), (4, v0), (2, .pointer (some (⟨b_1, 0, .none⟩ : Addr))), (0, v0)]) S tys tys_ok 2 (by kernel_rfl) ?_
  clear S; intro a S
  refine w_go S rfl (op_store (t' := (.st (.pair (.int .u16) (.pair (.int .u8) (.pair (.int .u8) (.pair (.int .u8) (.pair (.int .u8) (.pair (.int .u16) (.pair (.int .u16) (.pair (.int .u16) (.pair (.int .u8) (.pair (.int .u8) (.pair (.int .u8) (.int .u8)))))))))))))) S rfl rfl ty47 rfl rfl rfl B_2 (by simp) Ln.whole R_8 ?_)
  intro w_12 hw_13 B_
  replace R0 := R0.wrote hw_13 (by simp)
  replace R_8 := R_8.wrote hw_13 (by simp)
  replace W := W.wrote hw_13 (by simp)
  replace B_2 : Bx (.st (.pair (.int .u16) (.pair (.int .u8) (.pair (.int .u8) (.pair (.int .u8) (.pair (.int .u8) (.pair (.int .u16) (.pair (.int .u16) (.pair (.int .u16) (.pair (.int .u8) (.pair (.int .u8) (.pair (.int .u8) (.int .u8))))))))))))) 47 w_12 (Kx K w.heap.size [some b_1]) b_1 t_5.1 := B_; clear B_
  refine wl_pure (l' := [(3, .int .i64 t_5.2), (7, .int .i64 t_5.2), (6, v_6), (5, .tuple #[v_6, .int .i64 t_5.2]), (4, v0), (2, .pointer (some (⟨b_1, 0, .none⟩ : Addr))), (0, v0)]) S tys tys_ok 1 (by kernel_rfl) ?_
  clear S; intro a S
  refine wpList_nil ?_
  refine then_n ?_
  replace S := S.sub (l' := [(3, .int .i64 t_5.2), (2, .pointer (some (⟨b_1, 0, .none⟩ : Addr)))]) (by exact ⟨rfl, rfl, trivial⟩)
  refine wp_ret ?_
  obtain ⟨v_14, hr_15, R_16⟩ := res_cell (P := Try.prog) (T := 47) (t := (.st (.pair (.int .u16) (.pair (.int .u8) (.pair (.int .u8) (.pair (.int .u8) (.pair (.int .u8) (.pair (.int .u16) (.pair (.int .u16) (.pair (.int .u16) (.pair (.int .u8) (.pair (.int .u8) (.pair (.int .u8) (.int .u8)))))))))))))) (x := t_5.1) S (s := 2) rfl ty47 B_2.at_
  obtain rfl := Option.some.inj h
  exact b_res2 S rfl hr_15 (res_tmp S rfl) ⟨_, _, rfl, R_16.out, (RepV.mkInt GR_9), W.below⟩
theorem cb34 : callB Try.prog 34 = true := by kernel_rfl
def p35 (n : Nat) (x0 : Sl (Int)) : Option ((Bool)) :=
  (if ((lenI x0) == 18) = true then (idx x0.xs 0).bind fun y_3 => some (y_3 == 18) else some false).bind fun q_2 =>
  (if q_2 = true then (idx x0.xs 1).bind fun y_10 => some (y_10 == 1) else some false).bind fun q_9 =>
  (if q_9 = true then (idx x0.xs 7).bind fun y_17 => (if (y_17 == 8) = false then (idx x0.xs 7).bind fun y_24 => some (y_24 == 16) else some true).bind fun q_23 => (if q_23 = false then (idx x0.xs 7).bind fun y_31 => some (y_31 == 32) else some true).bind fun q_30 => (if q_30 = false then (idx x0.xs 7).bind fun y_38 => some (y_38 == 64) else some true).bind fun q_37 => some q_37 else some false).bind fun q_16 =>
  (if q_16 = true then (idx x0.xs 17).bind fun y_45 => some (decide (y_45 > 0)) else some false).bind fun q_44 =>
  (if q_44 = true then (idx x0.xs 17).bind fun y_52 => some (decide (y_52 < 9)) else some false).bind fun q_51 =>
  some q_51
set_option maxHeartbeats 4000000 in
set_option maxRecDepth 100000 in
/-- plugboard/plugboardlaw13.isDevice -/
theorem c35 (K : Nat → Prop) (n : Nat) (w : World) (x0 : Sl (Int)) (v0 : Value) (R0 : RepV (.sl (.int .u8)) w K v0 x0) {r : (Bool)} (h : p35 n x0 = some r) :
    Calls Try.prog 35 #[v0] w (Ret1 .bool w (Kx K w.heap.size []) r) := by
  refine enter (args := [v0]) Try.func35 rfl 54 rfl rfl fun a S => ?_
  have W := Wd.start w
  replace R0 := R0.arg
  unfold p35 at h
  replace S : St 54 a [(0, v0)] := S
  refine wp_seq ?_
  refine wp_region_lit ?_
  refine wl_pure (l' := [(2, .bool false), (0, v0)]) S tys tys_ok 1 (by kernel_rfl) ?_
  clear S; intro a S
  refine wpList_nil ?_
  refine then_n ?_
  replace S := S.sub (l' := [(0, v0)]) (by exact ⟨rfl, trivial⟩)
  refine wp_seq ?_
  refine wp_region_lit ?_
  refine wl_pure (l' := [(3, v0), (0, v0)]) S tys tys_ok 1 (by kernel_rfl) ?_
  clear S; intro a S
  refine w_go S rfl (op_len (K := _) S rfl ty23 rfl rfl rfl R0 ?_)
  clear S; intro a G_1 S
  refine wl_pure (l' := [(6, .bool ((lenI x0) == 18)), (5, .bool ((lenI x0) == 18)), (4, .int .i64 (lenI x0)), (3, v0), (0, v0)]) S tys tys_ok 2 (by kernel_rfl) ?_
  clear S; intro a S
  obtain ⟨q_2, eq_2, h⟩ := bindS h
  refine seg 5 (fun a_ w_ => w = w_ ∧ St 54 a_ [(11, .bool q_2), (0, v0)]) ?_ ?_
  · by_cases hc : ((lenI x0) == 18) = true
    · rw [if_pos hc] at eq_2; rw [hc] at S
      refine wl_pure (l' := [(7, v0), (6, .bool true), (5, .bool true), (4, .int .i64 (lenI x0)), (3, v0), (0, v0)]) S tys tys_ok 1 (by kernel_rfl) ?_
      clear S; intro a S
      obtain ⟨y_3, ey_3, eq_2⟩ := bindS eq_2
      refine w_go S rfl (op_indexAddr S rfl ty23 rfl rfl rfl R0 rfl ey_3 ?_)
      clear S; intro a p_4 R_5 H_6 S
      refine w_go S rfl (op_load (t := (.int .u8)) (x := y_3) S rfl ty5 rfl rfl rfl R_5 ?_)
      clear S; intro a v_7 R_8 S
      obtain ⟨rfl, GR_8⟩ := RepV.int R_8
      refine wl_pure (l' := [(11, .bool (y_3 == 18)), (10, .bool (y_3 == 18)), (9, .int .u8 y_3), (8, .pointer (some p_4)), (7, v0), (6, .bool true), (5, .bool true), (4, .int .i64 (lenI x0)), (3, v0), (0, v0)]) S tys tys_ok 2 (by kernel_rfl) ?_
      clear S; intro a S
      obtain rfl := Option.some.inj eq_2
      exact ⟨rfl, S.sub (by exact ⟨rfl, rfl, trivial⟩)⟩
    · rw [if_neg hc] at eq_2; rw [show ((lenI x0) == 18) = false from Bool.eq_false_iff.2 hc] at S
      refine wl_pure (l' := [(11, .bool false), (10, undef), (9, undef), (8, undef), (7, undef), (6, .bool false), (5, .bool false), (4, .int .i64 (lenI x0)), (3, v0), (0, v0)]) S tys tys_ok 5 (by kernel_rfl) ?_
      clear S; intro a S
      obtain rfl := Option.some.inj eq_2
      exact ⟨rfl, S.sub (by exact ⟨rfl, rfl, trivial⟩)⟩
  clear S eq_2; rintro a _ ⟨rfl, S⟩
  refine wl_pure (l' := [(12, .bool q_2), (11, .bool q_2), (0, v0)]) S tys tys_ok 1 (by kernel_rfl) ?_
  clear S; intro a S
  obtain ⟨q_9, eq_9, h⟩ := bindS h
  refine seg 5 (fun a_ w_ => w = w_ ∧ St 54 a_ [(17, .bool q_9), (0, v0)]) ?_ ?_
  · by_cases hc : q_2 = true
    · rw [if_pos hc] at eq_9; rw [hc] at S
      refine wl_pure (l' := [(13, v0), (12, .bool true), (11, .bool true), (0, v0)]) S tys tys_ok 1 (by kernel_rfl) ?_
      clear S; intro a S
      obtain ⟨y_10, ey_10, eq_9⟩ := bindS eq_9
      refine w_go S rfl (op_indexAddr S rfl ty23 rfl rfl rfl R0 rfl ey_10 ?_)
      clear S; intro a p_11 R_12 H_13 S
      refine w_go S rfl (op_load (t := (.int .u8)) (x := y_10) S rfl ty5 rfl rfl rfl R_12 ?_)
      clear S; intro a v_14 R_15 S
      obtain ⟨rfl, GR_15⟩ := RepV.int R_15
      refine wl_pure (l' := [(17, .bool (y_10 == 1)), (16, .bool (y_10 == 1)), (15, .int .u8 y_10), (14, .pointer (some p_11)), (13, v0), (12, .bool true), (11, .bool true), (0, v0)]) S tys tys_ok 2 (by kernel_rfl) ?_
      clear S; intro a S
      obtain rfl := Option.some.inj eq_9
      exact ⟨rfl, S.sub (by exact ⟨rfl, rfl, trivial⟩)⟩
    · rw [if_neg hc] at eq_9; rw [show q_2 = false from Bool.eq_false_iff.2 hc] at S
      refine wl_pure (l' := [(17, .bool false), (16, undef), (15, undef), (14, undef), (13, undef), (12, .bool false), (11, .bool false), (0, v0)]) S tys tys_ok 5 (by kernel_rfl) ?_
      clear S; intro a S
      obtain rfl := Option.some.inj eq_9
      exact ⟨rfl, S.sub (by exact ⟨rfl, rfl, trivial⟩)⟩
  clear S eq_9; rintro a _ ⟨rfl, S⟩
  refine wl_pure (l' := [(18, .bool q_9), (17, .bool q_9), (0, v0)]) S tys tys_ok 1 (by kernel_rfl) ?_
  clear S; intro a S
  obtain ⟨q_16, eq_16, h⟩ := bindS h
  refine seg 23 (fun a_ w_ => w = w_ ∧ St 54 a_ [(41, .bool q_16), (0, v0)]) ?_ ?_
  · by_cases hc : q_9 = true
    · rw [if_pos hc] at eq_16; rw [hc] at S
      refine wl_pure (l' := [(19, v0), (18, .bool true), (17, .bool true), (0, v0)]) S tys tys_ok 1 (by kernel_rfl) ?_
      clear S; intro a S
      obtain ⟨y_17, ey_17, eq_16⟩ := bindS eq_16
      refine w_go S rfl (op_indexAddr S rfl ty23 rfl rfl rfl R0 rfl ey_17 ?_)
      clear S; intro a p_18 R_19 H_20 S
      refine w_go S rfl (op_load (t := (.int .u8)) (x := y_17) S rfl ty5 rfl rfl rfl R_19 ?_)
      clear S; intro a v_21 R_22 S
      obtain ⟨rfl, GR_22⟩ := RepV.int R_22
      refine wl_pure (l' := [(23, .bool (y_17 == 8)), (22, .bool (y_17 == 8)), (21, .int .u8 y_17), (20, .pointer (some p_18)), (19, v0), (18, .bool true), (17, .bool true), (0, v0)]) S tys tys_ok 2 (by kernel_rfl) ?_
      clear S; intro a S
      obtain ⟨q_23, eq_23, eq_16⟩ := bindS eq_16
      refine seg 5 (fun a_ w_ => w = w_ ∧ St 54 a_ [(28, .bool q_23), (18, .bool true), (0, v0)]) ?_ ?_
      · by_cases hc : (y_17 == 8) = false
        · rw [if_pos hc] at eq_23; rw [hc] at S
          refine wl_pure (l' := [(24, v0), (23, .bool false), (22, .bool false), (21, .int .u8 y_17), (20, .pointer (some p_18)), (19, v0), (18, .bool true), (17, .bool true), (0, v0)]) S tys tys_ok 1 (by kernel_rfl) ?_
          clear S; intro a S
          obtain ⟨y_24, ey_24, eq_23⟩ := bindS eq_23
          refine w_go S rfl (op_indexAddr S rfl ty23 rfl rfl rfl R0 rfl ey_24 ?_)
          clear S; intro a p_25 R_26 H_27 S
          refine w_go S rfl (op_load (t := (.int .u8)) (x := y_24) S rfl ty5 rfl rfl rfl R_26 ?_)
          clear S; intro a v_28 R_29 S
          obtain ⟨rfl, GR_29⟩ := RepV.int R_29
          refine wl_pure (l' := [(28, .bool (y_24 == 16)), (27, .bool (y_24 == 16)), (26, .int .u8 y_24), (25, .pointer (some p_25)), (24, v0), (23, .bool false), (22, .bool false), (21, .int .u8 y_17), (20, .pointer (some p_18)), (19, v0), (18, .bool true), (17, .bool true), (0, v0)]) S tys tys_ok 2 (by kernel_rfl) ?_
          clear S; intro a S
          obtain rfl := Option.some.inj eq_23
          exact ⟨rfl, S.sub (by exact ⟨rfl, rfl, rfl, trivial⟩)⟩
        · rw [if_neg hc] at eq_23; rw [show (y_17 == 8) = true from (by simpa using hc)] at S
          refine wl_pure (l' := [(28, .bool true), (27, undef), (26, undef), (25, undef), (24, undef), (23, .bool true), (22, .bool true), (21, .int .u8 y_17), (20, .pointer (some p_18)), (19, v0), (18, .bool true), (17, .bool true), (0, v0)]) S tys tys_ok 5 (by kernel_rfl) ?_
          clear S; intro a S
          obtain rfl := Option.some.inj eq_23
          exact ⟨rfl, S.sub (by exact ⟨rfl, rfl, rfl, trivial⟩)⟩
      clear S eq_23; rintro a _ ⟨rfl, S⟩
      refine wl_pure (l' := [(29, .bool q_23), (28, .bool q_23), (18, .bool true), (0, v0)]) S tys tys_ok 1 (by kernel_rfl) ?_
      clear S; intro a S
      obtain ⟨q_30, eq_30, eq_16⟩ := bindS eq_16
      refine seg 5 (fun a_ w_ => w = w_ ∧ St 54 a_ [(34, .bool q_30), (18, .bool true), (0, v0)]) ?_ ?_
      · by_cases hc : q_23 = false
        · rw [if_pos hc] at eq_30; rw [hc] at S
          refine wl_pure (l' := [(30, v0), (29, .bool false), (28, .bool false), (18, .bool true), (0, v0)]) S tys tys_ok 1 (by kernel_rfl) ?_
          clear S; intro a S
          obtain ⟨y_31, ey_31, eq_30⟩ := bindS eq_30
          refine w_go S rfl (op_indexAddr S rfl ty23 rfl rfl rfl R0 rfl ey_31 ?_)
          clear S; intro a p_32 R_33 H_34 S
          refine w_go S rfl (op_load (t := (.int .u8)) (x := y_31) S rfl ty5 rfl rfl rfl R_33 ?_)
          clear S; intro a v_35 R_36 S
          obtain ⟨rfl, GR_36⟩ := RepV.int R_36
          refine wl_pure (l' := [(34, .bool (y_31 == 32)), (33, .bool (y_31 == 32)), (32, .int .u8 y_31), (31, .pointer (some p_32)), (30, v0), (29, .bool false), (28, .bool false), (18, .bool true), (0, v0)]) S tys tys_ok 2 (by kernel_rfl) ?_
          clear S; intro a S
          obtain rfl := Option.some.inj eq_30
          exact ⟨rfl, S.sub (by exact ⟨rfl, rfl, rfl, trivial⟩)⟩
        · rw [if_neg hc] at eq_30; rw [show q_23 = true from (by simpa using hc)] at S
          refine wl_pure (l' := [(34, .bool true), (33, undef), (32, undef), (31, undef), (30, undef), (29, .bool true), (28, .bool true), (18, .bool true), (0, v0)]) S tys tys_ok 5 (by kernel_rfl) ?_
          clear S; intro a S
          obtain rfl := Option.some.inj eq_30
          exact ⟨rfl, S.sub (by exact ⟨rfl, rfl, rfl, trivial⟩)⟩
      clear S eq_30; rintro a _ ⟨rfl, S⟩
      refine wl_pure (l' := [(35, .bool q_30), (34, .bool q_30), (18, .bool true), (0, v0)]) S tys tys_ok 1 (by kernel_rfl) ?_
      clear S; intro a S
      obtain ⟨q_37, eq_37, eq_16⟩ := bindS eq_16
      refine seg 5 (fun a_ w_ => w = w_ ∧ St 54 a_ [(40, .bool q_37), (18, .bool true), (0, v0)]) ?_ ?_
      · by_cases hc : q_30 = false
        · rw [if_pos hc] at eq_37; rw [hc] at S
          refine wl_pure (l' := [(36, v0), (35, .bool false), (34, .bool false), (18, .bool true), (0, v0)]) S tys tys_ok 1 (by kernel_rfl) ?_
          clear S; intro a S
          obtain ⟨y_38, ey_38, eq_37⟩ := bindS eq_37
          refine w_go S rfl (op_indexAddr S rfl ty23 rfl rfl rfl R0 rfl ey_38 ?_)
          clear S; intro a p_39 R_40 H_41 S
          refine w_go S rfl (op_load (t := (.int .u8)) (x := y_38) S rfl ty5 rfl rfl rfl R_40 ?_)
          clear S; intro a v_42 R_43 S
          obtain ⟨rfl, GR_43⟩ := RepV.int R_43
          refine wl_pure (l' := [(40, .bool (y_38 == 64)), (39, .bool (y_38 == 64)), (38, .int .u8 y_38), (37, .pointer (some p_39)), (36, v0), (35, .bool false), (34, .bool false), (18, .bool true), (0, v0)]) S tys tys_ok 2 (by kernel_rfl) ?_
          clear S; intro a S
          obtain rfl := Option.some.inj eq_37
          exact ⟨rfl, S.sub (by exact ⟨rfl, rfl, rfl, trivial⟩)⟩
        · rw [if_neg hc] at eq_37; rw [show q_30 = true from (by simpa using hc)] at S
          refine wl_pure (l' := [(40, .bool true), (39, undef), (38, undef), (37, undef), (36, undef), (35, .bool true), (34, .bool true), (18, .bool true), (0, v0)]) S tys tys_ok 5 (by kernel_rfl) ?_
          clear S; intro a S
          obtain rfl := Option.some.inj eq_37
          exact ⟨rfl, S.sub (by exact ⟨rfl, rfl, rfl, trivial⟩)⟩
      clear S eq_37; rintro a _ ⟨rfl, S⟩
      refine wl_pure (l' := [(41, .bool q_37), (40, .bool q_37), (18, .bool true), (0, v0)]) S tys tys_ok 1 (by kernel_rfl) ?_
      clear S; intro a S
      obtain rfl := Option.some.inj eq_16
      exact ⟨rfl, S.sub (by exact ⟨rfl, rfl, trivial⟩)⟩
    · rw [if_neg hc] at eq_16; rw [show q_9 = false from Bool.eq_false_iff.2 hc] at S
      refine wl_pure (l' := [(41, .bool false), (40, undef), (39, undef), (38, undef), (37, undef), (36, undef), (35, undef), (34, undef), (33, undef), (32, undef), (31, undef), (30, undef), (29, undef), (28, undef), (27, undef), (26, undef), (25, undef), (24, undef), (23, undef), (22, undef), (21, undef), (20, undef), (19, undef), (18, .bool false), (17, .bool false), (0, v0)]) S tys tys_ok 23 (by kernel_rfl) ?_
      clear S; intro a S
      obtain rfl := Option.some.inj eq_16
      exact ⟨rfl, S.sub (by exact ⟨rfl, rfl, trivial⟩)⟩
  clear S eq_16; rintro a _ ⟨rfl, S⟩
  refine wl_pure (l' := [(42, .bool q_16), (41, .bool q_16), (0, v0)]) S tys tys_ok 1 (by kernel_rfl) ?_
  clear S; intro a S
  obtain ⟨q_44, eq_44, h⟩ := bindS h
  refine seg 5 (fun a_ w_ => w = w_ ∧ St 54 a_ [(47, .bool q_44), (0, v0)]) ?_ ?_
  · by_cases hc : q_16 = true
    · rw [if_pos hc] at eq_44; rw [hc] at S
      refine wl_pure (l' := [(43, v0), (42, .bool true), (41, .bool true), (0, v0)]) S tys tys_ok 1 (by kernel_rfl) ?_
      clear S; intro a S
      obtain ⟨y_45, ey_45, eq_44⟩ := bindS eq_44
      refine w_go S rfl (op_indexAddr S rfl ty23 rfl rfl rfl R0 rfl ey_45 ?_)
      clear S; intro a p_46 R_47 H_48 S
      refine w_go S rfl (op_load (t := (.int .u8)) (x := y_45) S rfl ty5 rfl rfl rfl R_47 ?_)
      clear S; intro a v_49 R_50 S
      obtain ⟨rfl, GR_50⟩ := RepV.int R_50
      refine wl_pure (l' := [(47, .bool (decide (y_45 > 0))), (46, .bool (decide (y_45 > 0))), (45, .int .u8 y_45), (44, .pointer (some p_46)), (43, v0), (42, .bool true), (41, .bool true), (0, v0)]) S tys tys_ok 2 (by kernel_rfl) ?_
      clear S; intro a S
      obtain rfl := Option.some.inj eq_44
      exact ⟨rfl, S.sub (by exact ⟨rfl, rfl, trivial⟩)⟩
    · rw [if_neg hc] at eq_44; rw [show q_16 = false from Bool.eq_false_iff.2 hc] at S
      refine wl_pure (l' := [(47, .bool false), (46, undef), (45, undef), (44, undef), (43, undef), (42, .bool false), (41, .bool false), (0, v0)]) S tys tys_ok 5 (by kernel_rfl) ?_
      clear S; intro a S
      obtain rfl := Option.some.inj eq_44
      exact ⟨rfl, S.sub (by exact ⟨rfl, rfl, trivial⟩)⟩
  clear S eq_44; rintro a _ ⟨rfl, S⟩
  refine wl_pure (l' := [(48, .bool q_44), (47, .bool q_44), (0, v0)]) S tys tys_ok 1 (by kernel_rfl) ?_
  clear S; intro a S
  obtain ⟨q_51, eq_51, h⟩ := bindS h
  refine seg 5 (fun a_ w_ => w = w_ ∧ St 54 a_ [(53, .bool q_51)]) ?_ ?_
  · by_cases hc : q_44 = true
    · rw [if_pos hc] at eq_51; rw [hc] at S
      refine wl_pure (l' := [(49, v0), (48, .bool true), (47, .bool true), (0, v0)]) S tys tys_ok 1 (by kernel_rfl) ?_
      clear S; intro a S
      obtain ⟨y_52, ey_52, eq_51⟩ := bindS eq_51
      refine w_go S rfl (op_indexAddr S rfl ty23 rfl rfl rfl R0 rfl ey_52 ?_)
      clear S; intro a p_53 R_54 H_55 S
      refine w_go S rfl (op_load (t := (.int .u8)) (x := y_52) S rfl ty5 rfl rfl rfl R_54 ?_)
      clear S; intro a v_56 R_57 S
      obtain ⟨rfl, GR_57⟩ := RepV.int R_57
      refine wl_pure (l' := [(53, .bool (decide (y_52 < 9))), (52, .bool (decide (y_52 < 9))), (51, .int .u8 y_52), (50, .pointer (some p_53)), (49, v0), (48, .bool true), (47, .bool true), (0, v0)]) S tys tys_ok 2 (by kernel_rfl) ?_
      clear S; intro a S
      obtain rfl := Option.some.inj eq_51
      exact ⟨rfl, S.sub (by exact ⟨rfl, trivial⟩)⟩
    · rw [if_neg hc] at eq_51; rw [show q_44 = false from Bool.eq_false_iff.2 hc] at S
      refine wl_pure (l' := [(53, .bool false), (52, undef), (51, undef), (50, undef), (49, undef), (48, .bool false), (47, .bool false), (0, v0)]) S tys tys_ok 5 (by kernel_rfl) ?_
      clear S; intro a S
      obtain rfl := Option.some.inj eq_51
      exact ⟨rfl, S.sub (by exact ⟨rfl, trivial⟩)⟩
  clear S eq_51; rintro a _ ⟨rfl, S⟩
  refine wl_pure (l' := [(2, .bool q_51), (53, .bool q_51)]) S tys tys_ok 1 (by kernel_rfl) ?_
  clear S; intro a S
  refine wpList_nil ?_
  refine then_n ?_
  replace S := S.sub (l' := [(2, .bool q_51)]) (by exact ⟨rfl, trivial⟩)
  refine wp_ret ?_
  obtain rfl := Option.some.inj h
  exact b_ret1 S rfl rfl ⟨_, rfl, RepV.mkBool, W.below⟩
theorem cb35 : callB Try.prog 35 = true := by kernel_rfl
def p10 (n : Nat) (x0 : Int × Int × Int × Int × Int × Int × Int × Int × Int × Int × Int × Int) (x1 : Sl (Int)) : Option ((Bool)) :=
  if (decide ((lenI x1) > 40)) then ((p11 n).bind fun t_6 => some t_6) else (p16 n x0).bind fun t_13 => (p33 n x0).bind fun t_22 => (p19 n t_13.1 t_13.2 t_22).bind fun t_27 => if (!t_27) then (some false) else (p34 n t_13.1).bind fun t_32 => (if (t_13.2 == 0) = true then (if (!(eqP (.pair (.int .u16) (.pair (.int .u8) (.pair (.int .u8) (.pair (.int .u8) (.pair (.int .u8) (.pair (.int .u16) (.pair (.int .u16) (.pair (.int .u16) (.pair (.int .u8) (.pair (.int .u8) (.pair (.int .u8) (.int .u8)))))))))))) t_32.1 x0)) = false then some (t_32.2 != 0) else some true).bind fun q_50 => some q_50 else some false).bind fun q_45 => if q_45 then (some false) else (p34 n x1).bind fun t_51 => if (t_51.2 != 0) then ((p22 n t_51.2 (lenI x1) 18).bind fun t_65 => (if t_65 = true then some (eqP (.pair (.int .u16) (.pair (.int .u8) (.pair (.int .u8) (.pair (.int .u8) (.pair (.int .u8) (.pair (.int .u16) (.pair (.int .u16) (.pair (.int .u16) (.pair (.int .u8) (.pair (.int .u8) (.pair (.int .u8) (.int .u8)))))))))))) t_51.1 (0, 0, 0, 0, 0, 0, 0, 0, 0, 0, 0, 0)) else some false).bind fun q_70 => (if q_70 = true then (p35 n x1).bind fun t_76 => some (!t_76) else some false).bind fun q_75 => (if q_75 = true then (p11 n).bind fun t_83 => some t_83 else some false).bind fun q_82 => some q_82) else (p33 n t_51.1).bind fun t_91 => (if (decide (t_91 = x1.xs)) = true then (p11 n).bind fun t_98 => some t_98 else some false).bind fun q_96 => some q_96
set_option maxHeartbeats 4000000 in
set_option maxRecDepth 100000 in
/-- plugboard/plugboardlaw13.DescriptorsDevice -/
theorem c10 (K : Nat → Prop) (n : Nat) (w : World) (x0 : Int × Int × Int × Int × Int × Int × Int × Int × Int × Int × Int × Int) (v0 : Value) (R0 : RepV (.st (.pair (.int .u16) (.pair (.int .u8) (.pair (.int .u8) (.pair (.int .u8) (.pair (.int .u8) (.pair (.int .u16) (.pair (.int .u16) (.pair (.int .u16) (.pair (.int .u8) (.pair (.int .u8) (.pair (.int .u8) (.int .u8))))))))))))) w K v0 x0) (x1 : Sl (Int)) (v1 : Value) (R1 : RepV (.sl (.int .u8)) w K v1 x1) {r : (Bool)} (h : p10 n x0 x1 = some r) :
    Calls Try.prog 10 #[v0, v1] w (Ret1 .bool w (Kx K w.heap.size []) r) := by
  refine enter (args := [v0, v1]) Try.func10 rfl 74 rfl rfl fun a S => ?_
  have W := Wd.start w
  replace R0 := R0.arg
  replace R1 := R1.arg
  unfold p10 at h
  replace S : St 74 a [(0, v0), (1, v1)] := S
  refine wp_seq ?_
  refine wp_region_lit ?_
  refine w_go S rfl (op_box S rfl rfl rfl rfl rfl R0 ?_)
  clear S; intro a w_3 b_1 hb_4 B_2 S
  replace R0 := R0.box hb_4
  replace R1 := R1.box hb_4
  replace W := W.box hb_4
  refine wl_pure (l' := [(4, .bool false), (2, .pointer (some (⟨b_1, 0, .none⟩ : Addr))), (0, v0), (1, v1)]) S tys tys_ok 1 (by kernel_rfl) ?_
  clear S; intro a S
  refine wpList_nil ?_
  refine then_n ?_
  replace S := S.sub (l' := [(2, .pointer (some (⟨b_1, 0, .none⟩ : Addr))), (1, v1)]) (by exact ⟨rfl, rfl, trivial⟩)
  refine wp_seq ?_
  refine wp_seq ?_
  refine wp_region_lit ?_
  refine wl_pure (l' := [(11, v1), (2, .pointer (some (⟨b_1, 0, .none⟩ : Addr))), (1, v1)]) S tys tys_ok 1 (by kernel_rfl) ?_
  clear S; intro a S
  refine w_go S rfl (op_len (K := _) S rfl ty23 rfl rfl rfl R1 ?_)
  clear S; intro a G_5 S
  refine wl_pure (l' := [(13, .bool (decide ((lenI x1) > 40))), (12, .int .i64 (lenI x1)), (11, v1), (2, .pointer (some (⟨b_1, 0, .none⟩ : Addr))), (1, v1)]) S tys tys_ok 1 (by kernel_rfl) ?_
  clear S; intro a S
  refine wpList_nil ?_
  refine then_n ?_
  replace S := S.sub (l' := [(13, .bool (decide ((lenI x1) > 40))), (2, .pointer (some (⟨b_1, 0, .none⟩ : Addr))), (1, v1)]) (by exact ⟨rfl, rfl, rfl, trivial⟩)
  refine wp_cond_split (S.eval (show ev _ _ = some (.bool (decide ((lenI x1) > 40))) from rfl)) ?_ ?_
  · intro hc
    rw [if_pos hc] at h
    refine wp_seq ?_
    refine wp_region_lit ?_
    obtain ⟨t_6, et_6, h⟩ := bindS h
    refine w_go S rfl (op_call (vs := []) S rfl cb11 rfl rfl rfl (c11 (Kx K w.heap.size [some b_1]) n w_3  et_6) ?_)
    rintro _ w_10 ⟨v_7, rfl, R_8, hb_9⟩; refine ⟨_, rfl, ?_⟩
    replace R_8 := RepV.back R_8 W
    clear S; intro a S
    replace R1 := R1.step hb_9
    replace B_2 := B_2.step hb_9
    replace W := W.step hb_9
    obtain rfl := RepV.bool R_8
    refine wl_pure (l' := [(4, .bool t_6), (14, .bool t_6), (13, .bool (decide ((lenI x1) > 40))), (2, .pointer (some (⟨b_1, 0, .none⟩ : Addr))), (1, v1)]) S tys tys_ok 1 (by kernel_rfl) ?_
    clear S; intro a S
    refine wpList_nil ?_
    refine then_n ?_
    replace S := S.sub (l' := [(4, .bool t_6)]) (by exact ⟨rfl, trivial⟩)
    refine wp_ret ?_
    refine then_r ?_
    obtain rfl := Option.some.inj h
    exact b_ret1 S rfl rfl ⟨_, rfl, RepV.mkBool, W.below⟩
  · intro hc
    rw [if_neg (Bool.eq_false_iff.1 hc)] at h
    refine wp_skip ?_
    refine then_n ?_
    replace S := S.sub (l' := [(2, .pointer (some (⟨b_1, 0, .none⟩ : Addr))), (1, v1)]) (by exact ⟨rfl, rfl, trivial⟩)
    refine wp_seq ?_
    refine wp_region_lit ?_
    refine w_go S rfl (op_load (t := (.st (.pair (.int .u16) (.pair (.int .u8) (.pair (.int .u8) (.pair (.int .u8) (.pair (.int .u8) (.pair (.int .u16) (.pair (.int .u16) (.pair (.int .u16) (.pair (.int .u8) (.pair (.int .u8) (.pair (.int .u8) (.int .u8)))))))))))))) (x := x0) S rfl ty47 rfl rfl rfl B_2.at_ ?_)
    clear S; intro a v_11 R_12 S
    obtain ⟨t_13, et_13, h⟩ := bindS h
    refine w_go S rfl (op_call (vs := [v_11]) S rfl cb16 rfl rfl rfl (c16 (Kx K w.heap.size [some b_1]) n w_3 x0 _ R_12 et_13) ?_)
    rintro _ w_19 ⟨v_14, v_15, rfl, R_16, R_17, hb_18⟩; refine ⟨_, rfl, ?_⟩
    replace R_16 := RepV.back R_16 W
    replace R_17 := RepV.back R_17 W
    clear S; intro a S
    replace R1 := R1.step hb_18
    replace R_12 := R_12.step hb_18
    replace B_2 := B_2.step hb_18
    replace W := W.step hb_18
    obtain ⟨rfl, GR_17⟩ := RepV.int R_17
    refine wl_pure (l' := [(6, .int .i64 t_13.2), (5, v_14), (19, .int .i64 t_13.2), (18, v_14), (15, .tuple #[v_14, .int .i64 t_13.2]), (17, .tuple #[v_14, .int .i64 t_13.2]), (16, v_11), (2, .pointer (some (⟨b_1, 0, .none⟩ : Addr))), (1, v1)]) S tys tys_ok 5 (by kernel_rfl) ?_
    clear S; intro a S
    refine wpList_nil ?_
    refine then_n ?_
    replace S := S.sub (l' := [(6, .int .i64 t_13.2), (5, v_14), (2, .pointer (some (⟨b_1, 0, .none⟩ : Addr))), (1, v1)]) (by exact ⟨rfl, rfl, rfl, rfl, trivial⟩)
    refine wp_seq ?_
    refine wp_seq ?_
    refine wp_region_lit ?_
    refine wl_pure (l' := [(21, .int .i64 t_13.2), (20, v_14), (6, .int .i64 t_13.2), (5, v_14), (2, .pointer (some (⟨b_1, 0, .none⟩ : Addr))), (1, v1)]) S tys tys_ok 2 (by kernel_rfl) ?_
    clear S; intro a S
    refine w_go S rfl (op_load (t := (.st (.pair (.int .u16) (.pair (.int .u8) (.pair (.int .u8) (.pair (.int .u8) (.pair (.int .u8) (.pair (.int .u16) (.pair (.int .u16) (.pair (.int .u16) (.pair (.int .u8) (.pair (.int .u8) (.pair (.int .u8) (.int .u8)))))))))))))) (x := x0) S rfl ty47 rfl rfl rfl B_2.at_ ?_)
    clear S; intro a v_20 R_21 S
    obtain ⟨t_22, et_22, h⟩ := bindS h
    refine w_go S rfl (op_call (vs := [v_20]) S rfl cb33 rfl rfl rfl (c33 (Kx K w.heap.size [some b_1]) n w_19 x0 _ R_21 et_22) ?_)
    rintro _ w_26 ⟨v_23, rfl, R_24, hb_25⟩; refine ⟨_, rfl, ?_⟩
    replace R_24 := RepV.back R_24 W
    clear S; intro a S
    replace R_16 := R_16.step hb_25
    replace R1 := R1.step hb_25
    replace R_21 := R_21.step hb_25
    replace B_2 := B_2.step hb_25
    replace W := W.step hb_25
    obtain ⟨rfl, GR_24⟩ := RepV.str R_24
    obtain ⟨t_27, et_27, h⟩ := bindS h
    refine w_go S rfl (op_call (vs := [v_14, .int .i64 t_13.2, .string (strOfNums t_22)]) S rfl cb19 rfl rfl rfl (c19 (Kx K w.heap.size [some b_1]) n w_26 t_13.1 _ R_16 t_13.2 GR_17 t_22 GR_24 et_27) ?_)
    rintro _ w_31 ⟨v_28, rfl, R_29, hb_30⟩; refine ⟨_, rfl, ?_⟩
    replace R_29 := RepV.back R_29 W
    clear S; intro a S
    replace R_16 := R_16.step hb_30
    replace R1 := R1.step hb_30
    replace R_21 := R_21.step hb_30
    replace B_2 := B_2.step hb_30
    replace W := W.step hb_30
    obtain rfl := RepV.bool R_29
    refine wl_pure (l' := [(25, .bool (!t_27)), (24, .bool t_27), (23, .string (strOfNums t_22)), (22, v_20), (21, .int .i64 t_13.2), (20, v_14), (6, .int .i64 t_13.2), (5, v_14), (2, .pointer (some (⟨b_1, 0, .none⟩ : Addr))), (1, v1)]) S tys tys_ok 1 (by kernel_rfl) ?_
    clear S; intro a S
    refine wpList_nil ?_
    refine then_n ?_
    replace S := S.sub (l' := [(25, .bool (!t_27)), (6, .int .i64 t_13.2), (5, v_14), (2, .pointer (some (⟨b_1, 0, .none⟩ : Addr))), (1, v1)]) (by exact ⟨rfl, rfl, rfl, rfl, rfl, trivial⟩)
    refine wp_cond_split (S.eval (show ev _ _ = some (.bool (!t_27)) from rfl)) ?_ ?_
    · intro hc
      rw [if_pos hc] at h
      refine wp_seq ?_
      refine wp_region_lit ?_
      refine wl_pure (l' := [(4, .bool false), (25, .bool (!t_27)), (6, .int .i64 t_13.2), (5, v_14), (2, .pointer (some (⟨b_1, 0, .none⟩ : Addr))), (1, v1)]) S tys tys_ok 1 (by kernel_rfl) ?_
      clear S; intro a S
      refine wpList_nil ?_
      refine then_n ?_
      replace S := S.sub (l' := [(4, .bool false)]) (by exact ⟨rfl, trivial⟩)
      refine wp_ret ?_
      refine then_r ?_
      obtain rfl := Option.some.inj h
      exact b_ret1 S rfl rfl ⟨_, rfl, RepV.mkBool, W.below⟩
    · intro hc
      rw [if_neg (Bool.eq_false_iff.1 hc)] at h
      refine wp_skip ?_
      refine then_n ?_
      replace S := S.sub (l' := [(6, .int .i64 t_13.2), (5, v_14), (2, .pointer (some (⟨b_1, 0, .none⟩ : Addr))), (1, v1)]) (by exact ⟨rfl, rfl, rfl, rfl, trivial⟩)
      refine wp_seq ?_
      refine wp_seq ?_
      refine wp_region_lit ?_
      refine wl_pure (l' := [(27, v_14), (6, .int .i64 t_13.2), (5, v_14), (2, .pointer (some (⟨b_1, 0, .none⟩ : Addr))), (1, v1)]) S tys tys_ok 1 (by kernel_rfl) ?_
      clear S; intro a S
      obtain ⟨t_32, et_32, h⟩ := bindS h
      refine w_go S rfl (op_call (vs := [v_14]) S rfl cb34 rfl rfl rfl (c34 (Kx K w.heap.size [some b_1]) n w_31 t_13.1 _ R_16 et_32) ?_)
      rintro _ w_38 ⟨v_33, v_34, rfl, R_35, R_36, hb_37⟩; refine ⟨_, rfl, ?_⟩
      replace R_35 := RepV.back R_35 W
      replace R_36 := RepV.back R_36 W
      clear S; intro a S
      replace R_16 := R_16.step hb_37
      replace R1 := R1.step hb_37
      replace B_2 := B_2.step hb_37
      replace W := W.step hb_37
      obtain ⟨rfl, GR_36⟩ := RepV.int R_36
      refine wl_pure (l' := [(30, .int .i64 t_32.2), (29, v_33), (26, .tuple #[v_33, .int .i64 t_32.2]), (28, .tuple #[v_33, .int .i64 t_32.2]), (27, v_14), (6, .int .i64 t_13.2), (5, v_14), (2, .pointer (some (⟨b_1, 0, .none⟩ : Addr))), (1, v1)]) S tys tys_ok 3 (by kernel_rfl) ?_
      clear S; intro a S
      refine w_go S rfl (op_alloc (K := K) (n := w.heap.size) (L := [some b_1]) (t := (.st (.pair (.int .u16) (.pair (.int .u8) (.pair (.int .u8) (.pair (.int .u8) (.pair (.int .u8) (.pair (.int .u16) (.pair (.int .u16) (.pair (.int .u16) (.pair (.int .u8) (.pair (.int .u8) (.pair (.int .u8) (.int .u8)))))))))))))) (y := (0, 0, 0, 0, 0, 0, 0, 0, 0, 0, 0, 0)) S rfl rfl rfl _ z47 (fun w K => ⟨[.int .u16 0], [.int .u8 0, .int .u8 0, .int .u8 0, .int .u8 0, .int .u16 0, .int .u16 0, .int .u16 0, .int .u8 0, .int .u8 0, .int .u8 0, .int .u8 0], rfl, ⟨rfl, by decide⟩, ⟨[.int .u8 0], [.int .u8 0, .int .u8 0, .int .u8 0, .int .u16 0, .int .u16 0, .int .u16 0, .int .u8 0, .int .u8 0, .int .u8 0, .int .u8 0], rfl, ⟨rfl, by decide⟩, ⟨[.int .u8 0], [.int .u8 0, .int .u8 0, .int .u16 0, .int .u16 0, .int .u16 0, .int .u8 0, .int .u8 0, .int .u8 0, .int .u8 0], rfl, ⟨rfl, by decide⟩, ⟨[.int .u8 0], [.int .u8 0, .int .u16 0, .int .u16 0, .int .u16 0, .int .u8 0, .int .u8 0, .int .u8 0, .int .u8 0], rfl, ⟨rfl, by decide⟩, ⟨[.int .u8 0], [.int .u16 0, .int .u16 0, .int .u16 0, .int .u8 0, .int .u8 0, .int .u8 0, .int .u8 0], rfl, ⟨rfl, by decide⟩, ⟨[.int .u16 0], [.int .u16 0, .int .u16 0, .int .u8 0, .int .u8 0, .int .u8 0, .int .u8 0], rfl, ⟨rfl, by decide⟩, ⟨[.int .u16 0], [.int .u16 0, .int .u8 0, .int .u8 0, .int .u8 0, .int .u8 0], rfl, ⟨rfl, by decide⟩, ⟨[.int .u16 0], [.int .u8 0, .int .u8 0, .int .u8 0, .int .u8 0], rfl, ⟨rfl, by decide⟩, ⟨[.int .u8 0], [.int .u8 0, .int .u8 0, .int .u8 0], rfl, ⟨rfl, by decide⟩, ⟨[.int .u8 0], [.int .u8 0, .int .u8 0], rfl, ⟨rfl, by decide⟩, ⟨[.int .u8 0], [.int .u8 0], rfl, ⟨rfl, by decide⟩, ⟨rfl, by decide⟩⟩⟩⟩⟩⟩⟩⟩⟩⟩⟩⟩) ?_)
      clear S; intro a w_41 b_39 hb_42 B_40 S
      replace R_16 := R_16.box hb_42
      replace R1 := R1.box hb_42
      replace R_35 := R_35.box hb_42
      replace B_2 := B_2.box hb_42
      replace W := W.box hb_42
      refine w_go S rfl (op_store (t' := (.st (.pair (.int .u16) (.pair (.int .u8) (.pair (.int .u8) (.pair (.int .u8) (.pair (.int .u8) (.pair (.int .u16) (.pair (.int .u16) (.pair (.int .u16) (.pair (.int .u8) (.pair (.int .u8) (.pair (.int .u8) (.int .u8)))))))))))))) S rfl rfl ty47 rfl rfl rfl B_40 (by simp) Ln.whole R_35 ?_)
      intro w_43 hw_44 B_
      replace R_16 := R_16.wrote hw_44 (by simp)
      replace R1 := R1.wrote hw_44 (by simp)
      replace R_35 := R_35.wrote hw_44 (by simp)
      replace B_2 := B_2.wrote hw_44 (by simp) (W.bne (p := 1) (q := 0) (by decide) rfl rfl)
      replace W := W.wrote hw_44 (by simp)
      replace B_40 : Bx (.st (.pair (.int .u16) (.pair (.int .u8) (.pair (.int .u8) (.pair (.int .u8) (.pair (.int .u8) (.pair (.int .u16) (.pair (.int .u16) (.pair (.int .u16) (.pair (.int .u8) (.pair (.int .u8) (.pair (.int .u8) (.int .u8))))))))))))) 47 w_43 (Kx K w.heap.size [some b_39, some b_1]) b_39 t_32.1 := B_; clear B_
      refine wl_pure (l' := [(8, .int .i64 t_32.2), (7, .pointer (some (⟨b_39, 0, .none⟩ : Addr))), (30, .int .i64 t_32.2), (29, v_33), (26, .tuple #[v_33, .int .i64 t_32.2]), (28, .tuple #[v_33, .int .i64 t_32.2]), (27, v_14), (6, .int .i64 t_13.2), (5, v_14), (2, .pointer (some (⟨b_1, 0, .none⟩ : Addr))), (1, v1)]) S tys tys_ok 1 (by kernel_rfl) ?_
      clear S; intro a S
      refine wpList_nil ?_
      refine then_n ?_
      replace S := S.sub (l' := [(8, .int .i64 t_32.2), (7, .pointer (some (⟨b_39, 0, .none⟩ : Addr))), (6, .int .i64 t_13.2), (2, .pointer (some (⟨b_1, 0, .none⟩ : Addr))), (1, v1)]) (by exact ⟨rfl, rfl, rfl, rfl, rfl, trivial⟩)
      refine wp_seq ?_
      refine wp_region_lit ?_
      refine wl_pure (l' := [(33, .bool (t_13.2 == 0)), (32, .bool (t_13.2 == 0)), (31, .int .i64 t_13.2), (8, .int .i64 t_32.2), (7, .pointer (some (⟨b_39, 0, .none⟩ : Addr))), (6, .int .i64 t_13.2), (2, .pointer (some (⟨b_1, 0, .none⟩ : Addr))), (1, v1)]) S tys tys_ok 3 (by kernel_rfl) ?_
      clear S; intro a S
      obtain ⟨q_45, eq_45, h⟩ := bindS h
      refine seg 8 (fun a_ w_ => w_43 = w_ ∧ St 74 a_ [(41, .bool q_45), (1, v1)]) ?_ ?_
      · by_cases hc : (t_13.2 == 0) = true
        · rw [if_pos hc] at eq_45; rw [hc] at S
          refine w_go S rfl (op_load (t := (.st (.pair (.int .u16) (.pair (.int .u8) (.pair (.int .u8) (.pair (.int .u8) (.pair (.int .u8) (.pair (.int .u16) (.pair (.int .u16) (.pair (.int .u16) (.pair (.int .u8) (.pair (.int .u8) (.pair (.int .u8) (.int .u8)))))))))))))) (x := t_32.1) S rfl ty47 rfl rfl rfl B_40.at_ ?_)
          clear S; intro a v_46 R_47 S
          refine w_go S rfl (op_load (t := (.st (.pair (.int .u16) (.pair (.int .u8) (.pair (.int .u8) (.pair (.int .u8) (.pair (.int .u8) (.pair (.int .u16) (.pair (.int .u16) (.pair (.int .u16) (.pair (.int .u8) (.pair (.int .u8) (.pair (.int .u8) (.int .u8)))))))))))))) (x := x0) S rfl ty47 rfl rfl rfl B_2.at_ ?_)
          clear S; intro a v_48 R_49 S
          refine w_go S rfl (op_stneq (t := (.pair (.int .u16) (.pair (.int .u8) (.pair (.int .u8) (.pair (.int .u8) (.pair (.int .u8) (.pair (.int .u16) (.pair (.int .u16) (.pair (.int .u16) (.pair (.int .u8) (.pair (.int .u8) (.pair (.int .u8) (.int .u8))))))))))))) (m := t_32.1) (n := x0) S rfl rfl rfl rfl rfl rfl ty47 eq47 R_47 R_49 ?_)
          clear S; intro a S
          refine wl_pure (l' := [(37, .bool (!(eqP (.pair (.int .u16) (.pair (.int .u8) (.pair (.int .u8) (.pair (.int .u8) (.pair (.int .u8) (.pair (.int .u16) (.pair (.int .u16) (.pair (.int .u16) (.pair (.int .u8) (.pair (.int .u8) (.pair (.int .u8) (.int .u8)))))))))))) t_32.1 x0))), (36, .bool (!(eqP (.pair (.int .u16) (.pair (.int .u8) (.pair (.int .u8) (.pair (.int .u8) (.pair (.int .u8) (.pair (.int .u16) (.pair (.int .u16) (.pair (.int .u16) (.pair (.int .u8) (.pair (.int .u8) (.pair (.int .u8) (.int .u8)))))))))))) t_32.1 x0))), (35, v_48), (34, v_46), (33, .bool true), (32, .bool true), (31, .int .i64 t_13.2), (8, .int .i64 t_32.2), (7, .pointer (some (⟨b_39, 0, .none⟩ : Addr))), (6, .int .i64 t_13.2), (2, .pointer (some (⟨b_1, 0, .none⟩ : Addr))), (1, v1)]) S tys tys_ok 1 (by kernel_rfl) ?_
          clear S; intro a S
          obtain ⟨q_50, eq_50, eq_45⟩ := bindS eq_45
          refine seg 3 (fun a_ w_ => w_43 = w_ ∧ St 74 a_ [(40, .bool q_50), (33, .bool true), (1, v1)]) ?_ ?_
          · by_cases hc : (!(eqP (.pair (.int .u16) (.pair (.int .u8) (.pair (.int .u8) (.pair (.int .u8) (.pair (.int .u8) (.pair (.int .u16) (.pair (.int .u16) (.pair (.int .u16) (.pair (.int .u8) (.pair (.int .u8) (.pair (.int .u8) (.int .u8)))))))))))) t_32.1 x0)) = false
            · rw [if_pos hc] at eq_50; rw [hc] at S
              refine wl_pure (l' := [(40, .bool (t_32.2 != 0)), (39, .bool (t_32.2 != 0)), (38, .int .i64 t_32.2), (37, .bool false), (36, .bool false), (35, v_48), (34, v_46), (33, .bool true), (32, .bool true), (31, .int .i64 t_13.2), (8, .int .i64 t_32.2), (7, .pointer (some (⟨b_39, 0, .none⟩ : Addr))), (6, .int .i64 t_13.2), (2, .pointer (some (⟨b_1, 0, .none⟩ : Addr))), (1, v1)]) S tys tys_ok 3 (by kernel_rfl) ?_
              clear S; intro a S
              obtain rfl := Option.some.inj eq_50
              exact ⟨rfl, S.sub (by exact ⟨rfl, rfl, rfl, trivial⟩)⟩
            · rw [if_neg hc] at eq_50; rw [show (!(eqP (.pair (.int .u16) (.pair (.int .u8) (.pair (.int .u8) (.pair (.int .u8) (.pair (.int .u8) (.pair (.int .u16) (.pair (.int .u16) (.pair (.int .u16) (.pair (.int .u8) (.pair (.int .u8) (.pair (.int .u8) (.int .u8)))))))))))) t_32.1 x0)) = true from (by simpa using hc)] at S
              refine wl_pure (l' := [(40, .bool true), (39, undef), (38, undef), (37, .bool true), (36, .bool true), (35, v_48), (34, v_46), (33, .bool true), (32, .bool true), (31, .int .i64 t_13.2), (8, .int .i64 t_32.2), (7, .pointer (some (⟨b_39, 0, .none⟩ : Addr))), (6, .int .i64 t_13.2), (2, .pointer (some (⟨b_1, 0, .none⟩ : Addr))), (1, v1)]) S tys tys_ok 3 (by kernel_rfl) ?_
              clear S; intro a S
              obtain rfl := Option.some.inj eq_50
              exact ⟨rfl, S.sub (by exact ⟨rfl, rfl, rfl, trivial⟩)⟩
          clear S eq_50; rintro a _ ⟨rfl, S⟩
          refine wl_pure (l' := [(41, .bool q_50), (40, .bool q_50), (33, .bool true), (1, v1)]) S tys tys_ok 1 (by kernel_rfl) ?_
          clear S; intro a S
          obtain rfl := Option.some.inj eq_45
          exact ⟨rfl, S.sub (by exact ⟨rfl, rfl, trivial⟩)⟩
        · rw [if_neg hc] at eq_45; rw [show (t_13.2 == 0) = false from Bool.eq_false_iff.2 hc] at S
          refine wl_pure (l' := [(41, .bool false), (40, undef), (39, undef), (38, undef), (37, undef), (36, undef), (35, undef), (34, undef), (33, .bool false), (32, .bool false), (31, .int .i64 t_13.2), (8, .int .i64 t_32.2), (7, .pointer (some (⟨b_39, 0, .none⟩ : Addr))), (6, .int .i64 t_13.2), (2, .pointer (some (⟨b_1, 0, .none⟩ : Addr))), (1, v1)]) S tys tys_ok 8 (by kernel_rfl) ?_
          clear S; intro a S
          obtain rfl := Option.some.inj eq_45
          exact ⟨rfl, S.sub (by exact ⟨rfl, rfl, trivial⟩)⟩
      clear S eq_45; rintro a _ ⟨rfl, S⟩
      refine wpList_nil ?_
      refine then_n ?_
      refine wp_cond_split (S.eval (show ev _ _ = some (.bool q_45) from rfl)) ?_ ?_
      · intro hc
        rw [if_pos hc] at h
        refine wp_seq ?_
        refine wp_region_lit ?_
        refine wl_pure (l' := [(4, .bool false), (41, .bool q_45), (1, v1)]) S tys tys_ok 1 (by kernel_rfl) ?_
        clear S; intro a S
        refine wpList_nil ?_
        refine then_n ?_
        replace S := S.sub (l' := [(4, .bool false)]) (by exact ⟨rfl, trivial⟩)
        refine wp_ret ?_
        refine then_r ?_
        obtain rfl := Option.some.inj h
        exact b_ret1 S rfl rfl ⟨_, rfl, RepV.mkBool, W.below⟩
      · intro hc
        rw [if_neg (Bool.eq_false_iff.1 hc)] at h
        refine wp_skip ?_
        refine then_n ?_
        replace S := S.sub (l' := [(1, v1)]) (by exact ⟨rfl, trivial⟩)
        refine wp_seq ?_
        refine wp_region_lit ?_
        refine wl_pure (l' := [(43, v1), (1, v1)]) S tys tys_ok 1 (by kernel_rfl) ?_
        clear S; intro a S
        obtain ⟨t_51, et_51, h⟩ := bindS h
        refine w_go S rfl (op_call (vs := [v1]) S rfl cb34 rfl rfl rfl (c34 (Kx K w.heap.size [some b_39, some b_1]) n w_43 x1 _ R1 et_51) ?_)
        rintro _ w_57 ⟨v_52, v_53, rfl, R_54, R_55, hb_56⟩; refine ⟨_, rfl, ?_⟩
        replace R_54 := RepV.back R_54 W
        replace R_55 := RepV.back R_55 W
        clear S; intro a S
        replace R1 := R1.step hb_56
        replace B_2 := B_2.step hb_56
        replace B_40 := B_40.step hb_56
        replace W := W.step hb_56
        obtain ⟨rfl, GR_55⟩ := RepV.int R_55
        refine wl_pure (l' := [(46, .int .i64 t_51.2), (45, v_52), (42, .tuple #[v_52, .int .i64 t_51.2]), (44, .tuple #[v_52, .int .i64 t_51.2]), (43, v1), (1, v1)]) S tys tys_ok 3 (by kernel_rfl) ?_
        clear S; intro a S
        refine w_go S rfl (op_alloc (K := K) (n := w.heap.size) (L := [some b_39, some b_1]) (t := (.st (.pair (.int .u16) (.pair (.int .u8) (.pair (.int .u8) (.pair (.int .u8) (.pair (.int .u8) (.pair (.int .u16) (.pair (.int .u16) (.pair (.int .u16) (.pair (.int .u8) (.pair (.int .u8) (.pair (.int .u8) (.int .u8)))))))))))))) (y := (0, 0, 0, 0, 0, 0, 0, 0, 0, 0, 0, 0)) S rfl rfl rfl _ z47 (fun w K => ⟨[.int .u16 0], [.int .u8 0, .int .u8 0, .int .u8 0, .int .u8 0, .int .u16 0, .int .u16 0, .int .u16 0, .int .u8 0, .int .u8 0, .int .u8 0, .int .u8 0], rfl, ⟨rfl, by decide⟩, ⟨[.int .u8 0], [.int .u8 0, .int .u8 0, .int .u8 0, .int .u16 0, .int .u16 0, .int .u16 0, .int .u8 0, .int .u8 0, .int .u8 0, .int .u8 0], rfl, ⟨rfl, by decide⟩, ⟨[.int .u8 0], [.int .u8 0, .int .u8 0, .int .u16 0, .int .u16 0, .int .u16 0, .int .u8 0, .int .u8 0, .int .u8 0, .int .u8 0], rfl, ⟨rfl, by decide⟩, ⟨[.int .u8 0], [.int .u8 0, .int .u16 0, .int .u16 0, .int .u16 0, .int .u8 0, .int .u8 0, .int .u8 0, .int .u8 0], rfl, ⟨rfl, by decide⟩, ⟨[.int .u8 0], [.int .u16 0, .int .u16 0, .int .u16 0, .int .u8 0, .int .u8 0, .int .u8 0, .int .u8 0], rfl, ⟨rfl, by decide⟩, ⟨[.int .u16 0], [.int .u16 0, .int .u16 0, .int .u8 0, .int .u8 0, .int .u8 0, .int .u8 0], rfl, ⟨rfl, by decide⟩, ⟨[.int .u16 0], [.int .u16 0, .int .u8 0, .int .u8 0, .int .u8 0, .int .u8 0], rfl, ⟨rfl, by decide⟩, ⟨[.int .u16 0], [.int .u8 0, .int .u8 0, .int .u8 0, .int .u8 0], rfl, ⟨rfl, by decide⟩, ⟨[.int .u8 0], [.int .u8 0, .int .u8 0, .int .u8 0], rfl, ⟨rfl, by decide⟩, ⟨[.int .u8 0], [.int .u8 0, .int .u8 0], rfl, ⟨rfl, by decide⟩, ⟨[.int .u8 0], [.int .u8 0], rfl, ⟨rfl, by decide⟩, ⟨rfl, by decide⟩⟩⟩⟩⟩⟩⟩⟩⟩⟩⟩⟩) ?_)
        clear S; intro a w_60 b_58 hb_61 B_59 S
        replace R1 := R1.box hb_61
        replace R_54 := R_54.box hb_61
        replace B_2 := B_2.box hb_61
        replace B_40 := B_40.box hb_61
        replace W := W.box hb_61
        refine w_go S rfl (op_store (t' := (.st (.pair (.int .u16) (.pair (.int .u8) (.pair (.int .u8) (.pair (.int .u8) (.pair (.int .u8) (.pair (.int .u16) (.pair (.int .u16) (.pair (.int .u16) (.pair (.int .u8) (.pair (.int .u8) (.pair (.int .u8) (.int .u8)))))))))))))) S rfl rfl ty47 rfl rfl rfl B_59 (by simp) Ln.whole R_54 ?_)
        intro w_62 hw_63 B_
        replace R1 := R1.wrote hw_63 (by simp)
        replace R_54 := R_54.wrote hw_63 (by simp)
        replace B_2 := B_2.wrote hw_63 (by simp) (W.bne (p := 2) (q := 0) (by decide) rfl rfl)
        replace B_40 := B_40.wrote hw_63 (by simp) (W.bne (p := 1) (q := 0) (by decide) rfl rfl)
        replace W := W.wrote hw_63 (by simp)
        replace B_59 : Bx (.st (.pair (.int .u16) (.pair (.int .u8) (.pair (.int .u8) (.pair (.int .u8) (.pair (.int .u8) (.pair (.int .u16) (.pair (.int .u16) (.pair (.int .u16) (.pair (.int .u8) (.pair (.int .u8) (.pair (.int .u8) (.int .u8))))))))))))) 47 w_62 (Kx K w.heap.size [some b_58, some b_39, some b_1]) b_58 t_51.1 := B_; clear B_
        refine wl_pure (l' := [(10, .int .i64 t_51.2), (9, .pointer (some (⟨b_58, 0, .none⟩ : Addr))), (46, .int .i64 t_51.2), (45, v_52), (42, .tuple #[v_52, .int .i64 t_51.2]), (44, .tuple #[v_52, .int .i64 t_51.2]), (43, v1), (1, v1)]) S tys tys_ok 1 (by kernel_rfl) ?_
        clear S; intro a S
        refine wpList_nil ?_
        refine then_n ?_
        replace S := S.sub (l' := [(10, .int .i64 t_51.2), (9, .pointer (some (⟨b_58, 0, .none⟩ : Addr))), (1, v1)]) (by exact ⟨rfl, rfl, rfl, trivial⟩)
        refine wp_seq ?_
        refine wp_seq ?_
        refine wp_region_lit ?_
        refine wl_pure (l' := [(48, .bool (t_51.2 != 0)), (47, .int .i64 t_51.2), (10, .int .i64 t_51.2), (9, .pointer (some (⟨b_58, 0, .none⟩ : Addr))), (1, v1)]) S tys tys_ok 2 (by kernel_rfl) ?_
        clear S; intro a S
        refine wpList_nil ?_
        refine then_n ?_
        replace S := S.sub (l' := [(48, .bool (t_51.2 != 0)), (10, .int .i64 t_51.2), (9, .pointer (some (⟨b_58, 0, .none⟩ : Addr))), (1, v1)]) (by exact ⟨rfl, rfl, rfl, rfl, trivial⟩)
        refine wp_cond_split (S.eval (show ev _ _ = some (.bool (t_51.2 != 0)) from rfl)) ?_ ?_
        · intro hc
          rw [if_pos hc] at h
          refine wp_seq ?_
          refine wp_region_lit ?_
          refine wl_pure (l' := [(50, v1), (49, .int .i64 t_51.2), (48, .bool (t_51.2 != 0)), (10, .int .i64 t_51.2), (9, .pointer (some (⟨b_58, 0, .none⟩ : Addr))), (1, v1)]) S tys tys_ok 2 (by kernel_rfl) ?_
          clear S; intro a S
          refine w_go S rfl (op_len (K := _) S rfl ty23 rfl rfl rfl R1 ?_)
          clear S; intro a G_64 S
          obtain ⟨t_65, et_65, h⟩ := bindS h
          refine w_go S rfl (op_call (vs := [.int .i64 t_51.2, .int .i64 (lenI x1), .int .i64 18]) S rfl cb22 rfl rfl rfl (c22 (Kx K w.heap.size [some b_58, some b_39, some b_1]) n w_62 t_51.2 GR_55 (lenI x1) G_64 18 (by decide) et_65) ?_)
          rintro _ w_69 ⟨v_66, rfl, R_67, hb_68⟩; refine ⟨_, rfl, ?_⟩
          replace R_67 := RepV.back R_67 W
          clear S; intro a S
          replace R1 := R1.step hb_68
          replace B_2 := B_2.step hb_68
          replace B_40 := B_40.step hb_68
          replace B_59 := B_59.step hb_68
          replace W := W.step hb_68
          obtain rfl := RepV.bool R_67
          refine wl_pure (l' := [(53, .bool t_65), (52, .bool t_65), (51, .int .i64 (lenI x1)), (50, v1), (49, .int .i64 t_51.2), (48, .bool (t_51.2 != 0)), (10, .int .i64 t_51.2), (9, .pointer (some (⟨b_58, 0, .none⟩ : Addr))), (1, v1)]) S tys tys_ok 1 (by kernel_rfl) ?_
          clear S; intro a S
          obtain ⟨q_70, eq_70, h⟩ := bindS h
          refine seg 4 (fun a_ w_ => w_69 = w_ ∧ St 74 a_ [(57, .bool q_70), (1, v1)]) ?_ ?_
          · by_cases hc : t_65 = true
            · rw [if_pos hc] at eq_70; rw [hc] at S
              refine w_go S rfl (op_load (t := (.st (.pair (.int .u16) (.pair (.int .u8) (.pair (.int .u8) (.pair (.int .u8) (.pair (.int .u8) (.pair (.int .u16) (.pair (.int .u16) (.pair (.int .u16) (.pair (.int .u8) (.pair (.int .u8) (.pair (.int .u8) (.int .u8)))))))))))))) (x := t_51.1) S rfl ty47 rfl rfl rfl B_59.at_ ?_)
              clear S; intro a v_71 R_72 S
              refine w_go S rfl (op_build (K := (Kx K w.heap.size [some b_58, some b_39, some b_1])) (f := (.pair (.int .u16) (.pair (.int .u8) (.pair (.int .u8) (.pair (.int .u8) (.pair (.int .u8) (.pair (.int .u16) (.pair (.int .u16) (.pair (.int .u16) (.pair (.int .u8) (.pair (.int .u8) (.pair (.int .u8) (.int .u8))))))))))))) (z0 := (0, 0, 0, 0, 0, 0, 0, 0, 0, 0, 0, 0)) (x := (0, 0, 0, 0, 0, 0, 0, 0, 0, 0, 0, 0)) (vs := []) S _ rfl ty47 z47 (fun w K => ⟨[.int .u16 0], [.int .u8 0, .int .u8 0, .int .u8 0, .int .u8 0, .int .u16 0, .int .u16 0, .int .u16 0, .int .u8 0, .int .u8 0, .int .u8 0, .int .u8 0], rfl, ⟨rfl, by decide⟩, ⟨[.int .u8 0], [.int .u8 0, .int .u8 0, .int .u8 0, .int .u16 0, .int .u16 0, .int .u16 0, .int .u8 0, .int .u8 0, .int .u8 0, .int .u8 0], rfl, ⟨rfl, by decide⟩, ⟨[.int .u8 0], [.int .u8 0, .int .u8 0, .int .u16 0, .int .u16 0, .int .u16 0, .int .u8 0, .int .u8 0, .int .u8 0, .int .u8 0], rfl, ⟨rfl, by decide⟩, ⟨[.int .u8 0], [.int .u8 0, .int .u16 0, .int .u16 0, .int .u16 0, .int .u8 0, .int .u8 0, .int .u8 0, .int .u8 0], rfl, ⟨rfl, by decide⟩, ⟨[.int .u8 0], [.int .u16 0, .int .u16 0, .int .u16 0, .int .u8 0, .int .u8 0, .int .u8 0, .int .u8 0], rfl, ⟨rfl, by decide⟩, ⟨[.int .u16 0], [.int .u16 0, .int .u16 0, .int .u8 0, .int .u8 0, .int .u8 0, .int .u8 0], rfl, ⟨rfl, by decide⟩, ⟨[.int .u16 0], [.int .u16 0, .int .u8 0, .int .u8 0, .int .u8 0, .int .u8 0], rfl, ⟨rfl, by decide⟩, ⟨[.int .u16 0], [.int .u8 0, .int .u8 0, .int .u8 0, .int .u8 0], rfl, ⟨rfl, by decide⟩, ⟨[.int .u8 0], [.int .u8 0, .int .u8 0, .int .u8 0], rfl, ⟨rfl, by decide⟩, ⟨[.int .u8 0], [.int .u8 0, .int .u8 0], rfl, ⟨rfl, by decide⟩, ⟨[.int .u8 0], [.int .u8 0], rfl, ⟨rfl, by decide⟩, ⟨rfl, by decide⟩⟩⟩⟩⟩⟩⟩⟩⟩⟩⟩⟩) rfl rfl rfl [] rfl rfl ?_)
              clear S; intro a v_73 R_74 S
              refine w_go S rfl (op_steql (t := (.pair (.int .u16) (.pair (.int .u8) (.pair (.int .u8) (.pair (.int .u8) (.pair (.int .u8) (.pair (.int .u16) (.pair (.int .u16) (.pair (.int .u16) (.pair (.int .u8) (.pair (.int .u8) (.pair (.int .u8) (.int .u8))))))))))))) (m := t_51.1) (n := (0, 0, 0, 0, 0, 0, 0, 0, 0, 0, 0, 0)) S rfl rfl rfl rfl rfl rfl ty47 eq47 R_72 R_74 ?_)
              clear S; intro a S
              refine wl_pure (l' := [(57, .bool (eqP (.pair (.int .u16) (.pair (.int .u8) (.pair (.int .u8) (.pair (.int .u8) (.pair (.int .u8) (.pair (.int .u16) (.pair (.int .u16) (.pair (.int .u16) (.pair (.int .u8) (.pair (.int .u8) (.pair (.int .u8) (.int .u8)))))))))))) t_51.1 (0, 0, 0, 0, 0, 0, 0, 0, 0, 0, 0, 0))), (56, .bool (eqP (.pair (.int .u16) (.pair (.int .u8) (.pair (.int .u8) (.pair (.int .u8) (.pair (.int .u8) (.pair (.int .u16) (.pair (.int .u16) (.pair (.int .u16) (.pair (.int .u8) (.pair (.int .u8) (.pair (.int .u8) (.int .u8)))))))))))) t_51.1 (0, 0, 0, 0, 0, 0, 0, 0, 0, 0, 0, 0))), (55, v_73), (54, v_71), (53, .bool true), (52, .bool true), (51, .int .i64 (lenI x1)), (50, v1), (49, .int .i64 t_51.2), (48, .bool (t_51.2 != 0)), (10, .int .i64 t_51.2), (9, .pointer (some (⟨b_58, 0, .none⟩ : Addr))), (1, v1)]) S tys tys_ok 1 (by kernel_rfl) ?_
              clear S; intro a S
              obtain rfl := Option.some.inj eq_70
              exact ⟨rfl, S.sub (by exact ⟨rfl, rfl, trivial⟩)⟩
            · rw [if_neg hc] at eq_70; rw [show t_65 = false from Bool.eq_false_iff.2 hc] at S
              refine wl_pure (l' := [(57, .bool false), (56, undef), (55, undef), (54, undef), (53, .bool false), (52, .bool false), (51, .int .i64 (lenI x1)), (50, v1), (49, .int .i64 t_51.2), (48, .bool (t_51.2 != 0)), (10, .int .i64 t_51.2), (9, .pointer (some (⟨b_58, 0, .none⟩ : Addr))), (1, v1)]) S tys tys_ok 4 (by kernel_rfl) ?_
              clear S; intro a S
              obtain rfl := Option.some.inj eq_70
              exact ⟨rfl, S.sub (by exact ⟨rfl, rfl, trivial⟩)⟩
          clear S eq_70; rintro a _ ⟨rfl, S⟩
          refine wl_pure (l' := [(58, .bool q_70), (57, .bool q_70), (1, v1)]) S tys tys_ok 1 (by kernel_rfl) ?_
          clear S; intro a S
          obtain ⟨q_75, eq_75, h⟩ := bindS h
          refine seg 4 (fun a_ w_ => St 74 a_ [(62, .bool q_75)] ∧ Wd w w_ [some b_58, some b_39, some b_1] ∧ Bx (.st (.pair (.int .u16) (.pair (.int .u8) (.pair (.int .u8) (.pair (.int .u8) (.pair (.int .u8) (.pair (.int .u16) (.pair (.int .u16) (.pair (.int .u16) (.pair (.int .u8) (.pair (.int .u8) (.pair (.int .u8) (.int .u8))))))))))))) 47 w_ (Kx K w.heap.size [some b_58, some b_39, some b_1]) b_1 x0 ∧ Bx (.st (.pair (.int .u16) (.pair (.int .u8) (.pair (.int .u8) (.pair (.int .u8) (.pair (.int .u8) (.pair (.int .u16) (.pair (.int .u16) (.pair (.int .u16) (.pair (.int .u8) (.pair (.int .u8) (.pair (.int .u8) (.int .u8))))))))))))) 47 w_ (Kx K w.heap.size [some b_58, some b_39, some b_1]) b_39 t_32.1 ∧ Bx (.st (.pair (.int .u16) (.pair (.int .u8) (.pair (.int .u8) (.pair (.int .u8) (.pair (.int .u8) (.pair (.int .u16) (.pair (.int .u16) (.pair (.int .u16) (.pair (.int .u8) (.pair (.int .u8) (.pair (.int .u8) (.int .u8))))))))))))) 47 w_ (Kx K w.heap.size [some b_58, some b_39, some b_1]) b_58 t_51.1) ?_ ?_
          · by_cases hc : q_70 = true
            · rw [if_pos hc] at eq_75; rw [hc] at S
              refine wl_pure (l' := [(59, v1), (58, .bool true), (57, .bool true), (1, v1)]) S tys tys_ok 1 (by kernel_rfl) ?_
              clear S; intro a S
              obtain ⟨t_76, et_76, eq_75⟩ := bindS eq_75
              refine w_go S rfl (op_call (vs := [v1]) S rfl cb35 rfl rfl rfl (c35 (Kx K w.heap.size [some b_58, some b_39, some b_1]) n w_69 x1 _ R1 et_76) ?_)
              rintro _ w_80 ⟨v_77, rfl, R_78, hb_79⟩; refine ⟨_, rfl, ?_⟩
              replace R_78 := RepV.back R_78 W
              clear S; intro a S
              replace R1 := R1.step hb_79
              replace B_2 := B_2.step hb_79
              replace B_40 := B_40.step hb_79
              replace B_59 := B_59.step hb_79
              replace W := W.step hb_79
              obtain rfl := RepV.bool R_78
              refine wl_pure (l' := [(62, .bool (!t_76)), (61, .bool (!t_76)), (60, .bool t_76), (59, v1), (58, .bool true), (57, .bool true), (1, v1)]) S tys tys_ok 2 (by kernel_rfl) ?_
              clear S; intro a S
              obtain rfl := Option.some.inj eq_75
              exact ⟨S.sub (by exact ⟨rfl, trivial⟩), W, B_2, B_40, B_59⟩
            · rw [if_neg hc] at eq_75; rw [show q_70 = false from Bool.eq_false_iff.2 hc] at S
              refine wl_pure (l' := [(62, .bool false), (61, undef), (60, undef), (59, undef), (58, .bool false), (57, .bool false), (1, v1)]) S tys tys_ok 4 (by kernel_rfl) ?_
              clear S; intro a S
              obtain rfl := Option.some.inj eq_75
              exact ⟨S.sub (by exact ⟨rfl, trivial⟩), W, B_2, B_40, B_59⟩
          clear S W eq_75; rintro a w_81 ⟨S, W, B_2, B_40, B_59⟩
          refine wl_pure (l' := [(63, .bool q_75), (62, .bool q_75)]) S tys tys_ok 1 (by kernel_rfl) ?_
          clear S; intro a S
          obtain ⟨q_82, eq_82, h⟩ := bindS h
          refine seg 2 (fun a_ w_ => St 74 a_ [(65, .bool q_82)] ∧ Wd w w_ [some b_58, some b_39, some b_1] ∧ Bx (.st (.pair (.int .u16) (.pair (.int .u8) (.pair (.int .u8) (.pair (.int .u8) (.pair (.int .u8) (.pair (.int .u16) (.pair (.int .u16) (.pair (.int .u16) (.pair (.int .u8) (.pair (.int .u8) (.pair (.int .u8) (.int .u8))))))))))))) 47 w_ (Kx K w.heap.size [some b_58, some b_39, some b_1]) b_1 x0 ∧ Bx (.st (.pair (.int .u16) (.pair (.int .u8) (.pair (.int .u8) (.pair (.int .u8) (.pair (.int .u8) (.pair (.int .u16) (.pair (.int .u16) (.pair (.int .u16) (.pair (.int .u8) (.pair (.int .u8) (.pair (.int .u8) (.int .u8))))))))))))) 47 w_ (Kx K w.heap.size [some b_58, some b_39, some b_1]) b_39 t_32.1 ∧ Bx (.st (.pair (.int .u16) (.pair (.int .u8) (.pair (.int .u8) (.pair (.int .u8) (.pair (.int .u8) (.pair (.int .u16) (.pair (.int .u16) (.pair (.int .u16) (.pair (.int .u8) (.pair (.int .u8) (.pair (.int .u8) (.int .u8))))))))))))) 47 w_ (Kx K w.heap.size [some b_58, some b_39, some b_1]) b_58 t_51.1) ?_ ?_
          · by_cases hc : q_75 = true
            · rw [if_pos hc] at eq_82; rw [hc] at S
              obtain ⟨t_83, et_83, eq_82⟩ := bindS eq_82
              refine w_go S rfl (op_call (vs := []) S rfl cb11 rfl rfl rfl (c11 (Kx K w.heap.size [some b_58, some b_39, some b_1]) n w_81  et_83) ?_)
              rintro _ w_87 ⟨v_84, rfl, R_85, hb_86⟩; refine ⟨_, rfl, ?_⟩
              replace R_85 := RepV.back R_85 W
              clear S; intro a S
              replace B_2 := B_2.step hb_86
              replace B_40 := B_40.step hb_86
              replace B_59 := B_59.step hb_86
              replace W := W.step hb_86
              obtain rfl := RepV.bool R_85
              refine wl_pure (l' := [(65, .bool t_83), (64, .bool t_83), (63, .bool true), (62, .bool true)]) S tys tys_ok 1 (by kernel_rfl) ?_
              clear S; intro a S
              obtain rfl := Option.some.inj eq_82
              exact ⟨S.sub (by exact ⟨rfl, trivial⟩), W, B_2, B_40, B_59⟩
            · rw [if_neg hc] at eq_82; rw [show q_75 = false from Bool.eq_false_iff.2 hc] at S
              refine wl_pure (l' := [(65, .bool false), (64, undef), (63, .bool false), (62, .bool false)]) S tys tys_ok 2 (by kernel_rfl) ?_
              clear S; intro a S
              obtain rfl := Option.some.inj eq_82
              exact ⟨S.sub (by exact ⟨rfl, trivial⟩), W, B_2, B_40, B_59⟩
          clear S W eq_82; rintro a w_88 ⟨S, W, B_2, B_40, B_59⟩
          refine wl_pure (l' := [(4, .bool q_82), (65, .bool q_82)]) S tys tys_ok 1 (by kernel_rfl) ?_
          clear S; intro a S
          refine wpList_nil ?_
          refine then_n ?_
          replace S := S.sub (l' := [(4, .bool q_82)]) (by exact ⟨rfl, trivial⟩)
          refine wp_ret ?_
          refine then_r ?_
          obtain rfl := Option.some.inj h
          exact b_ret1 S rfl rfl ⟨_, rfl, RepV.mkBool, W.below⟩
        · intro hc
          rw [if_neg (Bool.eq_false_iff.1 hc)] at h
          refine wp_skip ?_
          refine then_n ?_
          replace S := S.sub (l' := [(9, .pointer (some (⟨b_58, 0, .none⟩ : Addr))), (1, v1)]) (by exact ⟨rfl, rfl, trivial⟩)
          refine wp_seq ?_
          obtain ⟨t_91, et_91, h⟩ := bindS h
          obtain ⟨q_96, eq_96, h⟩ := bindS h
          obtain ⟨t_98, HG_97⟩ : ∃ (t_98 : (Bool)) , ((decide (t_91 = x1.xs)) = true → (p11 n) = some t_98 ∧ t_98 = q_96) ∧ (¬ (decide (t_91 = x1.xs)) = true → false = q_96) := by
            by_cases hc : (decide (t_91 = x1.xs)) = true
            · rw [if_pos hc] at eq_96
              obtain ⟨t_98, et_98, eq_96⟩ := bindS eq_96
              exact ⟨t_98, ⟨fun _ => ⟨et_98, Option.some.inj eq_96⟩, fun k_ => absurd hc k_⟩⟩
            · rw [if_neg hc] at eq_96
              exact ⟨default, ⟨fun k_ => absurd k_ hc, fun _ => Option.some.inj eq_96⟩⟩
          have hR : Rel (Kx K w.heap.size [some b_58, some b_39, some b_1]) Bl := Bl.rel _
          refine wp_region_all hR [isRep (.st (.pair (.int .u16) (.pair (.int .u8) (.pair (.int .u8) (.pair (.int .u8) (.pair (.int .u8) (.pair (.int .u16) (.pair (.int .u16) (.pair (.int .u16) (.pair (.int .u8) (.pair (.int .u8) (.pair (.int .u8) (.int .u8))))))))))))) (Kx K w.heap.size [some b_58, some b_39, some b_1]) t_51.1, isS t_91, isRep (.sl (.int .u8)) (Kx K w.heap.size [some b_58, some b_39, some b_1]) x1, isS x1.xs, eqv (.bool (decide (t_91 = x1.xs))), eqv (.bool (decide (t_91 = x1.xs))), cndF (decide (t_91 = x1.xs)) true (eqv (.bool t_98)), eqv (.bool q_96), eqv (.bool q_96)] [[], [(0, 66)], [], [(2, 68)], [(1, 67), (3, 69)], [(4, 70)], [(5, 71)], [(5, 71), (6, 72)], [(7, 73)]] (by kernel_rfl) (by rw [S.size]; kernel_rfl) (by kernel_rfl) (by kernel_rfl) rfl ⟨(stab_rep hR), stab_S, (stab_rep hR), stab_S, (stab_eqv _), (stab_eqv _), (stab_cnd (stab_eqv _)), (stab_eqv _), (stab_eqv _), trivial⟩ ?_ ?_
          ·
            refine RunAll.cons (isRep (.st (.pair (.int .u16) (.pair (.int .u8) (.pair (.int .u8) (.pair (.int .u8) (.pair (.int .u8) (.pair (.int .u16) (.pair (.int .u16) (.pair (.int .u16) (.pair (.int .u8) (.pair (.int .u8) (.pair (.int .u8) (.int .u8))))))))))))) (Kx K w.heap.size [some b_58, some b_39, some b_1]) t_51.1) [] rfl rfl ?_ ?_
            · intro W_ hW
              have S1 := S
              refine fill_nil S1 ?_; clear S1; intro a_ S1
              replace B_59 := B_59.step hW
              have S0 := S.defers; replace S := S1; clear S1
              refine w_go S rfl (op_load (t := (.st (.pair (.int .u16) (.pair (.int .u8) (.pair (.int .u8) (.pair (.int .u8) (.pair (.int .u8) (.pair (.int .u16) (.pair (.int .u16) (.pair (.int .u16) (.pair (.int .u8) (.pair (.int .u8) (.pair (.int .u8) (.int .u8)))))))))))))) (x := t_51.1) S rfl ty47 rfl rfl rfl B_59.at_ ?_)
              clear S; intro a v_103 R_104 S
              refine wpList_nil ?_
              exact RPost.mk_ S rfl S0 R_104 (Below.refl _ _)
            refine RunAll.cons (isS t_91) [(isRep (.st (.pair (.int .u16) (.pair (.int .u8) (.pair (.int .u8) (.pair (.int .u8) (.pair (.int .u8) (.pair (.int .u16) (.pair (.int .u16) (.pair (.int .u16) (.pair (.int .u8) (.pair (.int .u8) (.pair (.int .u8) (.int .u8))))))))))))) (Kx K w.heap.size [some b_58, some b_39, some b_1]) t_51.1, 66)] rfl rfl ?_ ?_
            · intro W_ hW
              have S1 := S
              intro v_106 hF_105; replace hF_105 : RepV _ _ _ _ _ := hF_105
              replace S1 := S1.put (by decide : 66 < 74) (v_106)
              refine fill_nil S1 ?_; clear S1; intro a_ S1
              replace W := W.step hW
              have S0 := S.defers; replace S := S1; clear S1
              refine w_go S rfl (op_call (vs := [v_106]) S rfl cb33 rfl rfl rfl (c33 (Kx K w.heap.size [some b_58, some b_39, some b_1]) n W_ t_51.1 _ hF_105 et_91) ?_)
              rintro _ w_110 ⟨v_107, rfl, R_108, hb_109⟩; refine ⟨_, rfl, ?_⟩
              replace R_108 := RepV.back R_108 W
              clear S; intro a S
              obtain ⟨rfl, GR_108⟩ := RepV.str R_108
              refine wpList_nil ?_
              exact RPost.mk_ S rfl S0 ⟨rfl, GR_108⟩ (hb_109)
            refine RunAll.cons (isRep (.sl (.int .u8)) (Kx K w.heap.size [some b_58, some b_39, some b_1]) x1) [] rfl rfl ?_ ?_
            · intro W_ hW
              have S1 := S
              refine fill_nil S1 ?_; clear S1; intro a_ S1
              replace R1 := R1.step hW
              have S0 := S.defers; replace S := S1; clear S1
              refine wl_pure (l' := [(68, v1), (9, .pointer (some (⟨b_58, 0, .none⟩ : Addr))), (1, v1)]) S tys tys_ok 1 (by kernel_rfl) ?_; clear S; intro a S
              refine wpList_nil ?_
              exact RPost.mk_ S rfl S0 R1 (Below.refl _ _)
            refine RunAll.cons (isS x1.xs) [(isRep (.sl (.int .u8)) (Kx K w.heap.size [some b_58, some b_39, some b_1]) x1, 68)] rfl rfl ?_ ?_
            · intro W_ hW
              have S1 := S
              intro v_112 hF_111; replace hF_111 : RepV _ _ _ _ _ := hF_111
              replace S1 := S1.put (by decide : 68 < 74) (v_112)
              refine fill_nil S1 ?_; clear S1; intro a_ S1
              replace W := W.step hW
              have S0 := S.defers; replace S := S1; clear S1
              refine w_go S rfl (op_str (K := _) S rfl ty23 ty9 rfl rfl rfl hF_111 ?_)
              clear S; intro a S
              refine wpList_nil ?_
              exact RPost.mk_ S rfl S0 ⟨rfl, hF_111.byt⟩ (Below.refl _ _)
            refine RunAll.cons (eqv (.bool (decide (t_91 = x1.xs)))) [(isS t_91, 67), (isS x1.xs, 69)] rfl rfl ?_ ?_
            · intro W_ hW
              have S1 := S
              rintro _ ⟨rfl, hF_113⟩
              replace S1 := S1.put (by decide : 67 < 74) (.string (strOfNums t_91))
              rintro _ ⟨rfl, hF_115⟩
              replace S1 := S1.put (by decide : 69 < 74) (.string (strOfNums x1.xs))
              refine fill_nil S1 ?_; clear S1; intro a_ S1
              have S0 := S.defers; replace S := S1; clear S1
              refine w_go S rfl (op_streq S rfl rfl rfl rfl rfl (hF_113).1 (hF_115).1 ?_)
              clear S; intro a S
              refine wpList_nil ?_
              exact RPost.mk_ S rfl S0 rfl (Below.refl _ _)
            refine RunAll.cons (eqv (.bool (decide (t_91 = x1.xs)))) [(eqv (.bool (decide (t_91 = x1.xs))), 70)] rfl rfl ?_ ?_
            · intro W_ hW
              have S1 := S
              intro v_118 hF_117; obtain rfl : .bool (decide (t_91 = x1.xs)) = v_118 := Eq.symm hF_117
              replace S1 := S1.put (by decide : 70 < 74) (.bool (decide (t_91 = x1.xs)))
              refine fill_nil S1 ?_; clear S1; intro a_ S1
              have S0 := S.defers; replace S := S1; clear S1
              refine wl_pure (l' := [(71, .bool (decide (t_91 = x1.xs))), (70, .bool (decide (t_91 = x1.xs))), (9, .pointer (some (⟨b_58, 0, .none⟩ : Addr))), (1, v1)]) S tys tys_ok 1 (by kernel_rfl) ?_; clear S; intro a S
              refine wpList_nil ?_
              exact RPost.mk_ S rfl S0 rfl (Below.refl _ _)
            refine RunAll.cons (cndF (decide (t_91 = x1.xs)) true (eqv (.bool t_98))) [(eqv (.bool (decide (t_91 = x1.xs))), 71)] rfl rfl ?_ ?_
            · intro W_ hW
              by_cases hc0 : (decide (t_91 = x1.xs)) = true
              · have hl0 : (decide (t_91 = x1.xs)) = true := hc0
                have S1 := S
                intro v_120 hF_119; obtain rfl : .bool (decide (t_91 = x1.xs)) = v_120 := Eq.symm hF_119
                replace S1 := S1.put (by decide : 71 < 74) (.bool (decide (t_91 = x1.xs)))
                refine fill_nil S1 ?_; clear S1; intro a_ S1
                replace W := W.step hW
                rw [show (decide (t_91 = x1.xs)) = true from hl0] at S1
                have S0 := S.defers; replace S := S1; clear S1
                obtain ⟨et_98, _⟩ := (HG_97).1 hc0
                refine w_go S rfl (op_call (vs := []) S rfl cb11 rfl rfl rfl (c11 (Kx K w.heap.size [some b_58, some b_39, some b_1]) n W_  et_98) ?_)
                rintro _ w_124 ⟨v_121, rfl, R_122, hb_123⟩; refine ⟨_, rfl, ?_⟩
                replace R_122 := RepV.back R_122 W
                clear S; intro a S
                obtain rfl := RepV.bool R_122
                refine wpList_nil ?_
                exact RPost.mk_ S rfl S0 ⟨fun _ => rfl, fun k_ => absurd hc0 k_⟩ (hb_123)
              · have hl0 : (decide (t_91 = x1.xs)) = false := Bool.eq_false_iff.2 hc0
                have S1 := S
                intro v_126 hF_125; obtain rfl : .bool (decide (t_91 = x1.xs)) = v_126 := Eq.symm hF_125
                replace S1 := S1.put (by decide : 71 < 74) (.bool (decide (t_91 = x1.xs)))
                refine fill_nil S1 ?_; clear S1; intro a_ S1
                rw [show (decide (t_91 = x1.xs)) = false from hl0] at S1
                have S0 := S.defers; replace S := S1; clear S1
                refine wl_pure (l' := [(72, undef), (71, .bool false), (9, .pointer (some (⟨b_58, 0, .none⟩ : Addr))), (1, v1)]) S tys tys_ok 1 (by kernel_rfl) ?_; clear S; intro a S
                refine wpList_nil ?_
                exact RPost.mk_ S rfl S0 ⟨fun k_ => absurd k_ hc0, fun _ => rfl⟩ (Below.refl _ _)
            refine RunAll.cons (eqv (.bool q_96)) [(eqv (.bool (decide (t_91 = x1.xs))), 71), (cndF (decide (t_91 = x1.xs)) true (eqv (.bool t_98)), 72)] rfl rfl ?_ ?_
            · intro W_ hW
              by_cases hc0 : (decide (t_91 = x1.xs)) = true
              · have hl0 : (decide (t_91 = x1.xs)) = true := hc0
                have S1 := S
                intro v_128 hF_127; obtain rfl : .bool (decide (t_91 = x1.xs)) = v_128 := Eq.symm hF_127
                replace S1 := S1.put (by decide : 71 < 74) (.bool (decide (t_91 = x1.xs)))
                intro v_129 hF_130
                replace hF_130 := cndF.pos hF_130 hc0
                revert hF_130
                revert v_129
                intro v_132 hF_131; obtain rfl : .bool t_98 = v_132 := Eq.symm hF_131
                replace S1 := S1.put (by decide : 72 < 74) (.bool t_98)
                refine fill_nil S1 ?_; clear S1; intro a_ S1
                rw [show (decide (t_91 = x1.xs)) = true from hl0] at S1
                have S0 := S.defers; replace S := S1; clear S1
                refine wl_pure (l' := [(73, .bool t_98), (72, .bool t_98), (71, .bool true), (9, .pointer (some (⟨b_58, 0, .none⟩ : Addr))), (1, v1)]) S tys tys_ok 1 (by kernel_rfl) ?_; clear S; intro a S
                refine wpList_nil ?_
                exact RPost.mk_ S rfl S0 (congrArg Value.bool ((HG_97).1 hc0).2) (Below.refl _ _)
              · have hl0 : (decide (t_91 = x1.xs)) = false := Bool.eq_false_iff.2 hc0
                have S1 := S
                intro v_134 hF_133; obtain rfl : .bool (decide (t_91 = x1.xs)) = v_134 := Eq.symm hF_133
                replace S1 := S1.put (by decide : 71 < 74) (.bool (decide (t_91 = x1.xs)))
                intro v_135 hF_136
                obtain rfl := cndF.neg hF_136 hc0
                replace S1 := S1.put (by decide : 72 < 74) (undef)
                refine fill_nil S1 ?_; clear S1; intro a_ S1
                rw [show (decide (t_91 = x1.xs)) = false from hl0] at S1
                have S0 := S.defers; replace S := S1; clear S1
                refine wl_pure (l' := [(73, .bool false), (72, undef), (71, .bool false), (9, .pointer (some (⟨b_58, 0, .none⟩ : Addr))), (1, v1)]) S tys tys_ok 1 (by kernel_rfl) ?_; clear S; intro a S
                refine wpList_nil ?_
                exact RPost.mk_ S rfl S0 (congrArg Value.bool ((HG_97).2 hc0)) (Below.refl _ _)
            refine RunAll.cons (eqv (.bool q_96)) [(eqv (.bool q_96), 73)] rfl rfl ?_ ?_
            · intro W_ hW
              have S1 := S
              intro v_138 hF_137; obtain rfl : .bool q_96 = v_138 := Eq.symm hF_137
              replace S1 := S1.put (by decide : 73 < 74) (.bool q_96)
              refine fill_nil S1 ?_; clear S1; intro a_ S1
              have S0 := S.defers; replace S := S1; clear S1
              refine wl_pure (l' := [(4, .bool q_96), (73, .bool q_96), (9, .pointer (some (⟨b_58, 0, .none⟩ : Addr))), (1, v1)]) S tys tys_ok 1 (by kernel_rfl) ?_; clear S; intro a S
              refine wpList_nil ?_
              exact RPost.mk_ S rfl S0 rfl (Below.refl _ _)
            exact trivial
          intro w_139 hb_140
          refine EndE.some_ rfl ?_
          intro v_142 hF_141; replace hF_141 : RepV _ _ _ _ _ := hF_141
          replace S := S.put (by decide : 66 < 74) (v_142)
          refine EndE.some_ rfl ?_
          rintro _ ⟨rfl, hF_143⟩
          replace S := S.put (by decide : 67 < 74) (.string (strOfNums t_91))
          refine EndE.some_ rfl ?_
          intro v_146 hF_145; replace hF_145 : RepV _ _ _ _ _ := hF_145
          replace S := S.put (by decide : 68 < 74) (v_146)
          refine EndE.some_ rfl ?_
          rintro _ ⟨rfl, hF_147⟩
          replace S := S.put (by decide : 69 < 74) (.string (strOfNums x1.xs))
          refine EndE.some_ rfl ?_
          intro v_150 hF_149; obtain rfl : .bool (decide (t_91 = x1.xs)) = v_150 := Eq.symm hF_149
          replace S := S.put (by decide : 70 < 74) (.bool (decide (t_91 = x1.xs)))
          refine EndE.some_ rfl ?_
          intro v_152 hF_151; obtain rfl : .bool (decide (t_91 = x1.xs)) = v_152 := Eq.symm hF_151
          replace S := S.put (by decide : 71 < 74) (.bool (decide (t_91 = x1.xs)))
          refine EndE.some_ rfl ?_
          intro v_153 _
          replace S := S.put (by decide : 72 < 74) (v_153)
          refine EndE.some_ rfl ?_
          intro v_155 hF_154; obtain rfl : .bool q_96 = v_155 := Eq.symm hF_154
          replace S := S.put (by decide : 73 < 74) (.bool q_96)
          refine EndE.some_ rfl ?_
          intro v_157 hF_156; obtain rfl : .bool q_96 = v_157 := Eq.symm hF_156
          replace S := S.put (by decide : 4 < 74) (.bool q_96)
          refine endE_nil S ?_; clear S; intro a S
          replace R1 := R1.step hb_140
          replace B_2 := B_2.step hb_140
          replace B_40 := B_40.step hb_140
          replace B_59 := B_59.step hb_140
          replace W := W.step hb_140
          refine then_n ?_
          replace S := S.sub (l' := [(4, .bool q_96)]) (by exact ⟨rfl, trivial⟩)
          refine wp_ret ?_
          obtain rfl := Option.some.inj h
          exact b_ret1 S rfl rfl ⟨_, rfl, RepV.mkBool, W.below⟩

end Go.Proofs.Ytojifdijcanbpaa
