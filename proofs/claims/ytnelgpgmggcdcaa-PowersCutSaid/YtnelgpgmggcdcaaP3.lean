/- Functions of the program, as plain data. -/
import Derived.Test.YtnelgpgmggcdcaaP2
set_option linter.unusedVariables false
set_option linter.unusedSimpArgs false
namespace Go.Proofs.Ytnelgpgmggcdcaa
open Go.RowKit

def p18_l1 (n : Nat) (x0 : Sl (Int)) (x1 : Sl (Int)) : Nat → (Int) → Option ((Unit) ⊕ ((Bool)))
  | 0, _ => .none
  | m + 1, c_7 => if (decide (c_7 < (lenI x0))) then ((idx x0.xs c_7).bind fun y_17 => (idx x1.xs c_7).bind fun y_23 => if (y_17 != y_23) then (some (.inr false)) else (ckI .i64 (c_7 + 1)).bind fun x_87 => p18_l1 n x0 x1 m x_87) else some (.inl ())
def p18 (n : Nat) (x0 : Sl (Int)) (x1 : Sl (Int)) : Option ((Bool)) :=
  (if ((lenI x0) != (lenI x1)) = false then (capO x0).bind fun x_5 => some (x_5 != (lenI x0)) else some true).bind fun q_3 =>
  if q_3 then (some false) else (p18_l1 n x0 x1 n 0).bind fun (y_11 : (Unit) ⊕ ((Bool))) => lrK y_11 some fun (s_12 : Unit) => some true
set_option maxHeartbeats 4000000 in
set_option maxRecDepth 100000 in
/-- plugboard/plugboardlaw19.same -/
theorem c18 (K : Nat → Prop) (n : Nat) (w : World) (x0 : Sl (Int)) (v0 : Value) (R0 : RepV (.sl (.int .i64)) w K v0 x0) (x1 : Sl (Int)) (v1 : Value) (R1 : RepV (.sl (.int .i64)) w K v1 x1) {r : (Bool)} (h : p18 n x0 x1 = some r) :
    Calls Try.prog 18 #[v0, v1] w (Ret1 .bool w (Kx K w.heap.size []) r) := by
  refine enter (args := [v0, v1]) Try.func18 rfl 33 rfl rfl fun a S => ?_
  have W := Wd.start w
  replace R0 := R0.arg
  replace R1 := R1.arg
  unfold p18 at h
  replace S : St 33 a [(0, v0), (1, v1)] := S
  refine wp_seq ?_
  refine wp_region_lit ?_
  refine wl_pure (l' := [(4, .bool false), (0, v0), (1, v1)]) S tys tys_ok 1 (by kernel_rfl) ?_
  clear S; intro a S
  refine wpList_nil ?_
  refine then_n ?_
  replace S := S.sub (l' := [(0, v0), (1, v1)]) (by exact ⟨rfl, rfl, trivial⟩)
  refine wp_seq ?_
  refine wp_seq ?_
  refine wp_region_lit ?_
  refine wl_pure (l' := [(6, v0), (0, v0), (1, v1)]) S tys tys_ok 1 (by kernel_rfl) ?_
  clear S; intro a S
  refine w_go S rfl (op_len (K := _) S rfl ty27 rfl rfl rfl R0 ?_)
  clear S; intro a G_1 S
  refine wl_pure (l' := [(8, v1), (7, .int .i64 (lenI x0)), (6, v0), (0, v0), (1, v1)]) S tys tys_ok 1 (by kernel_rfl) ?_
  clear S; intro a S
  refine w_go S rfl (op_len (K := _) S rfl ty27 rfl rfl rfl R1 ?_)
  clear S; intro a G_2 S
  refine wl_pureK (l' := [(11, .bool ((lenI x0) != (lenI x1))), (0, v0), (1, v1)]) S tys tys_ok 2 [11, 0, 1] (by kernel_rfl) ?_
  clear S; intro a S
  obtain ⟨q_3, eq_3, h⟩ := bindS h
  refine seg 6 (fun a_ w_ => w = w_ ∧ St 33 a_ [(17, .bool q_3), (0, v0), (1, v1)]) ?_ ?_
  · by_cases hc : ((lenI x0) != (lenI x1)) = false
    · rw [if_pos hc] at eq_3; rw [hc] at S
      refine wl_pure (l' := [(12, v0), (11, .bool false), (0, v0), (1, v1)]) S tys tys_ok 1 (by kernel_rfl) ?_
      clear S; intro a S
      obtain ⟨x_5, ex_5, eq_3⟩ := bindS eq_3
      refine w_go S rfl (op_cap (K := _) S rfl ty27 rfl rfl rfl R0 ex_5 ?_)
      clear S; intro a G_4 S
      refine wl_pure (l' := [(14, v0), (13, .int .i64 x_5), (12, v0), (11, .bool false), (0, v0), (1, v1)]) S tys tys_ok 1 (by kernel_rfl) ?_
      clear S; intro a S
      refine w_go S rfl (op_len (K := _) S rfl ty27 rfl rfl rfl R0 ?_)
      clear S; intro a G_6 S
      refine wl_pureK (l' := [(17, .bool (x_5 != (lenI x0))), (0, v0), (1, v1)]) S tys tys_ok 2 [17, 0, 1] (by kernel_rfl) ?_
      clear S; intro a S
      obtain rfl := Option.some.inj eq_3
      exact ⟨rfl, S.sub (by exact ⟨rfl, rfl, rfl, trivial⟩)⟩
    · rw [if_neg hc] at eq_3; rw [show ((lenI x0) != (lenI x1)) = true from (by simpa using hc)] at S
      refine wl_pureK (l' := [(17, .bool true), (0, v0), (1, v1)]) S tys tys_ok 6 [17, 0, 1] (by kernel_rfl) ?_
      clear S; intro a S
      obtain rfl := Option.some.inj eq_3
      exact ⟨rfl, S.sub (by exact ⟨rfl, rfl, rfl, trivial⟩)⟩
  clear S eq_3; rintro a _ ⟨rfl, S⟩
  refine wpList_nil ?_
  refine then_n ?_
  refine wp_cond_split (S.eval (show ev _ _ = some (.bool q_3) from rfl)) ?_ ?_
  · intro hc
    rw [if_pos hc] at h
    refine wp_seq ?_
    refine wp_region_lit ?_
    refine wl_pureK (l' := [(4, .bool false)]) S tys tys_ok 1 [4] (by kernel_rfl) ?_
    clear S; intro a S
    refine wpList_nil ?_
    refine then_n ?_
    refine wp_ret ?_
    refine then_r ?_
    obtain rfl := Option.some.inj h
    exact b_ret1 S rfl rfl ⟨_, rfl, RepV.mkBool, W.below⟩
  · intro hc
    rw [if_neg (Bool.eq_false_iff.1 hc)] at h
    refine wp_skip ?_
    refine then_n ?_
    replace S := S.sub (l' := [(0, v0), (1, v1)]) (by exact ⟨rfl, rfl, trivial⟩)
    refine wp_seq ?_
    refine wp_seq ?_
    refine wp_region_lit ?_
    refine wl_pure (l' := [(5, .int .i64 0), (0, v0), (1, v1)]) S tys tys_ok 1 (by kernel_rfl) ?_
    clear S; intro a S
    refine wpList_nil ?_
    refine then_n ?_
    obtain ⟨y_11, ey_11, h⟩ := bindS h
    refine wp_cut_ (fun a_ w_ => ∃ s_12 : Unit, y_11 = .inl s_12 ∧ (St 33 a_ [] ∧ Wd w w_ [])) ?_ ?_
    · refine wp_block ?_
      refine wp_loop_n (fun m_ a_ w_ => ∃ (c_7 : Int) , St 33 a_ [(5, .int .i64 c_7), (0, v0), (1, v1)] ∧ Wd w w_ [] ∧ InR .i64 c_7 ∧ RepV (.sl (.int .i64)) w_ (Kx K w.heap.size []) v0 x0 ∧ RepV (.sl (.int .i64)) w_ (Kx K w.heap.size []) v1 x1 ∧ p18_l1 n x0 x1 m_ c_7 = some y_11) n ?_ ?_
      · skip
        exact ⟨0, ⟨S.sub (by exact ⟨rfl, rfl, rfl, trivial⟩), W, (by decide), R0, R1, ey_11⟩⟩
      · clear S W; rintro m_13 a w_15 ⟨c_7, S, W, G_8, R0, R1, hl_14⟩
        cases m_13 with
        | zero => exact absurd hl_14 (by simp [p18_l1])
        | succ m_13 =>
          refine ⟨m_13, rfl, ?_⟩
          rw [p18_l1] at hl_14
          refine wp_seq ?_
          refine wp_seq ?_
          refine wp_region_lit ?_
          refine wl_pure (l' := [(19, v0), (18, .int .i64 c_7), (5, .int .i64 c_7), (0, v0), (1, v1)]) S tys tys_ok 2 (by kernel_rfl) ?_
          clear S; intro a S
          refine w_go S rfl (op_len (K := _) S rfl ty27 rfl rfl rfl R0 ?_)
          clear S; intro a G_16 S
          refine wl_pureK (l' := [(21, .bool (decide (c_7 < (lenI x0)))), (5, .int .i64 c_7), (0, v0), (1, v1)]) S tys tys_ok 1 [21, 5, 0, 1] (by kernel_rfl) ?_
          clear S; intro a S
          refine wpList_nil ?_
          refine then_n ?_
          refine wp_cond_split (S.eval (show ev _ _ = some (.bool (decide (c_7 < (lenI x0)))) from rfl)) ?_ ?_
          · intro hc
            rw [if_pos hc] at hl_14
            refine wp_skip ?_
            refine then_n ?_
            replace S := S.sub (l' := [(5, .int .i64 c_7), (0, v0), (1, v1)]) (by exact ⟨rfl, rfl, rfl, trivial⟩)
            refine wp_seq ?_
            refine wp_block ?_
            refine wp_seq ?_
            obtain ⟨y_17, ey_17, hl_14⟩ := bindS hl_14
            obtain ⟨y_23, ey_23, hl_14⟩ := bindS hl_14
            have hR : Rel (Kx K w.heap.size []) Bl := Bl.rel _
            refine wp_region_all hR [isRep (.sl (.int .i64)) (Kx K w.heap.size []) x0, isI .i64 c_7, isEl (.int .i64) (Kx K w.heap.size []) y_17, isI .i64 y_17, isRep (.sl (.int .i64)) (Kx K w.heap.size []) x1, isI .i64 c_7, isEl (.int .i64) (Kx K w.heap.size []) y_23, isI .i64 y_23, eqv (.bool (y_17 != y_23))] [[], [], [(0, 24), (1, 25)], [(2, 26)], [], [], [(4, 28), (5, 29)], [(6, 30)], [(3, 27), (7, 31)]] (by kernel_rfl) (by rw [S.size]; kernel_rfl) (by kernel_rfl) (by kernel_rfl) rfl ⟨(stab_rep hR), stab_I, (stab_el hR), stab_I, (stab_rep hR), stab_I, (stab_el hR), stab_I, (stab_eqv _), trivial⟩ ?_ ?_
            ·
              refine RunAll.cons (isRep (.sl (.int .i64)) (Kx K w.heap.size []) x0) [] rfl rfl ?_ ?_
              · intro W_ hW
                have S1 := S
                refine fill_nil S1 ?_; clear S1; intro a_ S1
                replace R0 := R0.step hW
                have S0 := S.defers; replace S := S1; clear S1
                refine wl_pure (l' := [(24, v0), (5, .int .i64 c_7), (0, v0), (1, v1)]) S tys tys_ok 1 (by kernel_rfl) ?_; clear S; intro a S
                refine wpList_nil ?_
                exact RPost.mk_ S rfl S0 R0 (Below.refl _ _)
              refine RunAll.cons (isI .i64 c_7) [] rfl rfl ?_ ?_
              · intro W_ hW
                have S1 := S
                refine fill_nil S1 ?_; clear S1; intro a_ S1
                have S0 := S.defers; replace S := S1; clear S1
                refine wl_pure (l' := [(25, .int .i64 c_7), (5, .int .i64 c_7), (0, v0), (1, v1)]) S tys tys_ok 1 (by kernel_rfl) ?_; clear S; intro a S
                refine wpList_nil ?_
                exact RPost.mk_ S rfl S0 ⟨rfl, G_8⟩ (Below.refl _ _)
              refine RunAll.cons (isEl (.int .i64) (Kx K w.heap.size []) y_17) [(isRep (.sl (.int .i64)) (Kx K w.heap.size []) x0, 24), (isI .i64 c_7, 25)] rfl rfl ?_ ?_
              · intro W_ hW
                have S1 := S
                intro v_30 hF_29; replace hF_29 : RepV _ _ _ _ _ := hF_29
                replace S1 := S1.put (by decide : 24 < 33) (v_30)
                rintro _ ⟨rfl, hF_31⟩
                replace S1 := S1.put (by decide : 25 < 33) (.int .i64 c_7)
                refine fill_nil S1 ?_; clear S1; intro a_ S1
                replace W := W.step hW
                have S0 := S.defers; replace S := S1; clear S1
                refine w_go S rfl (op_indexAddr S rfl ty27 rfl rfl rfl hF_29 rfl ey_17 ?_)
                clear S; intro a p_33 R_34 H_35 S
                refine wpList_nil ?_
                exact RPost.mk_ S rfl S0 ⟨_, rfl, R_34, H_35⟩ (Below.refl _ _)
              refine RunAll.cons (isI .i64 y_17) [(isEl (.int .i64) (Kx K w.heap.size []) y_17, 26)] rfl rfl ?_ ?_
              · intro W_ hW
                have S1 := S
                rintro _ ⟨p_38, rfl, R_39, H_40⟩
                replace S1 := S1.put (by decide : 26 < 33) (.pointer (some p_38))
                refine fill_nil S1 ?_; clear S1; intro a_ S1
                have S0 := S.defers; replace S := S1; clear S1
                refine w_go S rfl (op_load (t := (.int .i64)) (x := y_17) S rfl ty3 rfl rfl rfl R_39 ?_)
                clear S; intro a v_41 R_42 S
                obtain ⟨rfl, GR_42⟩ := RepV.int R_42
                refine wpList_nil ?_
                exact RPost.mk_ S rfl S0 ⟨rfl, GR_42⟩ (Below.refl _ _)
              refine RunAll.cons (isRep (.sl (.int .i64)) (Kx K w.heap.size []) x1) [] rfl rfl ?_ ?_
              · intro W_ hW
                have S1 := S
                refine fill_nil S1 ?_; clear S1; intro a_ S1
                replace R1 := R1.step hW
                have S0 := S.defers; replace S := S1; clear S1
                refine wl_pure (l' := [(28, v1), (5, .int .i64 c_7), (0, v0), (1, v1)]) S tys tys_ok 1 (by kernel_rfl) ?_; clear S; intro a S
                refine wpList_nil ?_
                exact RPost.mk_ S rfl S0 R1 (Below.refl _ _)
              refine RunAll.cons (isI .i64 c_7) [] rfl rfl ?_ ?_
              · intro W_ hW
                have S1 := S
                refine fill_nil S1 ?_; clear S1; intro a_ S1
                have S0 := S.defers; replace S := S1; clear S1
                refine wl_pure (l' := [(29, .int .i64 c_7), (5, .int .i64 c_7), (0, v0), (1, v1)]) S tys tys_ok 1 (by kernel_rfl) ?_; clear S; intro a S
                refine wpList_nil ?_
                exact RPost.mk_ S rfl S0 ⟨rfl, G_8⟩ (Below.refl _ _)
              refine RunAll.cons (isEl (.int .i64) (Kx K w.heap.size []) y_23) [(isRep (.sl (.int .i64)) (Kx K w.heap.size []) x1, 28), (isI .i64 c_7, 29)] rfl rfl ?_ ?_
              · intro W_ hW
                have S1 := S
                intro v_44 hF_43; replace hF_43 : RepV _ _ _ _ _ := hF_43
                replace S1 := S1.put (by decide : 28 < 33) (v_44)
                rintro _ ⟨rfl, hF_45⟩
                replace S1 := S1.put (by decide : 29 < 33) (.int .i64 c_7)
                refine fill_nil S1 ?_; clear S1; intro a_ S1
                replace W := W.step hW
                have S0 := S.defers; replace S := S1; clear S1
                refine w_go S rfl (op_indexAddr S rfl ty27 rfl rfl rfl hF_43 rfl ey_23 ?_)
                clear S; intro a p_47 R_48 H_49 S
                refine wpList_nil ?_
                exact RPost.mk_ S rfl S0 ⟨_, rfl, R_48, H_49⟩ (Below.refl _ _)
              refine RunAll.cons (isI .i64 y_23) [(isEl (.int .i64) (Kx K w.heap.size []) y_23, 30)] rfl rfl ?_ ?_
              · intro W_ hW
                have S1 := S
                rintro _ ⟨p_52, rfl, R_53, H_54⟩
                replace S1 := S1.put (by decide : 30 < 33) (.pointer (some p_52))
                refine fill_nil S1 ?_; clear S1; intro a_ S1
                have S0 := S.defers; replace S := S1; clear S1
                refine w_go S rfl (op_load (t := (.int .i64)) (x := y_23) S rfl ty3 rfl rfl rfl R_53 ?_)
                clear S; intro a v_55 R_56 S
                obtain ⟨rfl, GR_56⟩ := RepV.int R_56
                refine wpList_nil ?_
                exact RPost.mk_ S rfl S0 ⟨rfl, GR_56⟩ (Below.refl _ _)
              refine RunAll.cons (eqv (.bool (y_17 != y_23))) [(isI .i64 y_17, 27), (isI .i64 y_23, 31)] rfl rfl ?_ ?_
              · intro W_ hW
                have S1 := S
                rintro _ ⟨rfl, hF_57⟩
                replace S1 := S1.put (by decide : 27 < 33) (.int .i64 y_17)
                rintro _ ⟨rfl, hF_59⟩
                replace S1 := S1.put (by decide : 31 < 33) (.int .i64 y_23)
                refine fill_nil S1 ?_; clear S1; intro a_ S1
                have S0 := S.defers; replace S := S1; clear S1
                refine wl_pure (l' := [(32, .bool (y_17 != y_23)), (31, .int .i64 y_23), (27, .int .i64 y_17), (5, .int .i64 c_7), (0, v0), (1, v1)]) S tys tys_ok 1 (by kernel_rfl) ?_; clear S; intro a S
                refine wpList_nil ?_
                exact RPost.mk_ S rfl S0 rfl (Below.refl _ _)
              exact trivial
            intro w_61 hb_62
            refine EndE.some_ rfl ?_
            intro v_64 hF_63; replace hF_63 : RepV _ _ _ _ _ := hF_63
            replace S := S.put (by decide : 24 < 33) (v_64)
            refine EndE.some_ rfl ?_
            rintro _ ⟨rfl, hF_65⟩
            replace S := S.put (by decide : 25 < 33) (.int .i64 c_7)
            refine EndE.some_ rfl ?_
            rintro _ ⟨p_69, rfl, R_70, H_71⟩
            replace S := S.put (by decide : 26 < 33) (.pointer (some p_69))
            refine EndE.some_ rfl ?_
            rintro _ ⟨rfl, hF_72⟩
            replace S := S.put (by decide : 27 < 33) (.int .i64 y_17)
            refine EndE.some_ rfl ?_
            intro v_75 hF_74; replace hF_74 : RepV _ _ _ _ _ := hF_74
            replace S := S.put (by decide : 28 < 33) (v_75)
            refine EndE.some_ rfl ?_
            rintro _ ⟨rfl, hF_76⟩
            replace S := S.put (by decide : 29 < 33) (.int .i64 c_7)
            refine EndE.some_ rfl ?_
            rintro _ ⟨p_80, rfl, R_81, H_82⟩
            replace S := S.put (by decide : 30 < 33) (.pointer (some p_80))
            refine EndE.some_ rfl ?_
            rintro _ ⟨rfl, hF_83⟩
            replace S := S.put (by decide : 31 < 33) (.int .i64 y_23)
            refine EndE.some_ rfl ?_
            intro v_86 hF_85; obtain rfl : .bool (y_17 != y_23) = v_86 := Eq.symm hF_85
            replace S := S.put (by decide : 32 < 33) (.bool (y_17 != y_23))
            refine endE_nil S ?_; clear S; intro a S
            replace R0 := R0.step hb_62
            replace R1 := R1.step hb_62
            replace W := W.step hb_62
            refine then_n ?_
            replace S := S.sub (l' := [(32, .bool (y_17 != y_23)), (5, .int .i64 c_7), (0, v0), (1, v1)]) (by exact ⟨rfl, rfl, rfl, rfl, trivial⟩)
            refine wp_cond_split (S.eval (show ev _ _ = some (.bool (y_17 != y_23)) from rfl)) ?_ ?_
            · intro hc
              rw [if_pos hc] at hl_14
              refine wp_seq ?_
              refine wp_region_lit ?_
              refine wl_pureK (l' := [(4, .bool false)]) S tys tys_ok 1 [4] (by kernel_rfl) ?_
              clear S; intro a S
              refine wpList_nil ?_
              refine then_n ?_
              refine wp_ret ?_
              refine blk_r ?_
              refine then_r ?_
              refine then_r ?_
              refine blk_r ?_
              refine then_r ?_
              refine then_r ?_
              obtain rfl := Option.some.inj hl_14
              obtain rfl := lr_inr h
              exact b_ret1 S rfl rfl ⟨_, rfl, RepV.mkBool, W.below⟩
            · intro hc
              rw [if_neg (Bool.eq_false_iff.1 hc)] at hl_14
              refine wp_skip ?_
              refine blk_n ?_
              refine then_n ?_
              replace S := S.sub (l' := [(5, .int .i64 c_7), (0, v0), (1, v1)]) (by exact ⟨rfl, rfl, rfl, trivial⟩)
              refine wp_region_lit ?_
              refine wl_pure (l' := [(22, .int .i64 c_7), (5, .int .i64 c_7), (0, v0), (1, v1)]) S tys tys_ok 1 (by kernel_rfl) ?_
              clear S; intro a S
              obtain ⟨x_87, ex_87, hl_14⟩ := bindS hl_14
              refine w_go S rfl (op_arith S .i64 (c_7 + 1) rfl (.inl rfl) rfl rfl rfl rfl ex_87 ?_)
              clear S; intro a S
              refine wl_pure (l' := [(5, .int .i64 x_87), (23, .int .i64 x_87), (22, .int .i64 c_7), (5, .int .i64 c_7), (0, v0), (1, v1)]) S tys tys_ok 1 (by kernel_rfl) ?_
              clear S; intro a S
              refine wpList_nil ?_
              refine then_n ?_
              exact ⟨x_87, ⟨S.sub (by exact ⟨rfl, rfl, rfl, trivial⟩), W, (ckI_some ex_87).2.1, R0, R1, hl_14⟩⟩
          · intro hc
            rw [if_neg (Bool.eq_false_iff.1 hc)] at hl_14
            refine wp_exit ?_
            refine then_x ?_
            refine then_x ?_
            refine blk_hit ?_
            refine then_n ?_
            obtain rfl := Option.some.inj hl_14
            exact ⟨_, rfl, ⟨S.sub trivial, W⟩⟩
    clear S W; rintro a w_88 ⟨s_12, rfl, S, W⟩
    replace h := lr_inl h; try dsimp only at h
    refine then_n ?_
    refine wp_seq ?_
    refine wp_region_lit ?_
    refine wl_pure (l' := [(4, .bool true)]) S tys tys_ok 1 (by kernel_rfl) ?_
    clear S; intro a S
    refine wpList_nil ?_
    refine then_n ?_
    refine wp_ret ?_
    obtain rfl := Option.some.inj h
    exact b_ret1 S rfl rfl ⟨_, rfl, RepV.mkBool, W.below⟩
theorem cb18 : callB Try.prog 18 = true := by kernel_rfl
def p20_l1 (n : Nat) (x0 : Sl (Int × Int × Bool × Bool × Bool × Bool × Int)) : Nat → (Int) → (List (Bool)) → Option ((List (Bool)))
  | 0, _, _ => .none
  | m + 1, c_14, c_16 => if (decide (c_14 < (lenI x0))) then ((idx x0.xs c_14).bind fun y_30 => (idx c_16 c_14).bind fun y_42 => (if y_42 = false then (if (y_30.1 != (-1)) = true then (idx c_16 y_30.1).bind fun y_54 => some y_54 else some false).bind fun q_51 => some q_51 else some true).bind fun q_48 => (idx c_16 c_14).bind fun y_60 => (ckI .i64 (c_14 + 1)).bind fun x_68 => p20_l1 n x0 m x_68 (c_16.set c_14.toNat q_48)) else some c_16
def p20 (n : Nat) (x0 : Sl (Int × Int × Bool × Bool × Bool × Bool × Int)) : Option ((Sl (Int)) × (Int)) :=
  (p17 n x0).bind fun t_1 =>
  if (t_1 != 0) then (some ((⟨[], some 0⟩ : Sl (Int)), t_1)) else (p27 n x0 true).bind fun t_6 => (p20_l1 n x0 n 0 t_6.2.xs).bind fun (y_24 : (List (Bool))) => (p29 n (⟨y_24, t_6.2.cap⟩ : Sl (Bool))).bind fun t_71 => some (t_71, 0)
set_option maxHeartbeats 4000000 in
set_option maxRecDepth 100000 in
/-- plugboard/powers.Cut -/
theorem c20 (K : Nat → Prop) (n : Nat) (w : World) (x0 : Sl (Int × Int × Bool × Bool × Bool × Bool × Int)) (v0 : Value) (R0 : RepV (.sl gt1) w K v0 x0) {r : (Sl (Int)) × (Int)} (h : p20 n x0 = some r) :
    Calls Try.prog 20 #[v0] w (Ret2 (.sl (.int .i64)) (.int .i64) w (Kx K w.heap.size []) r) := by
  refine enter (args := [v0]) Try.func20 rfl 48 rfl rfl fun a S => ?_
  have W := Wd.start w
  replace R0 := R0.arg
  unfold p20 at h
  replace S : St 48 a [(0, v0)] := S
  refine wp_seq ?_
  refine wp_region_lit ?_
  refine wl_pure (l' := [(3, .int .i64 0), (2, .slice .none 0 0), (0, v0)]) S tys tys_ok 2 (by kernel_rfl) ?_
  clear S; intro a S
  refine wpList_nil ?_
  refine then_n ?_
  replace S := S.sub (l' := [(0, v0)]) (by exact ⟨rfl, trivial⟩)
  refine wp_seq ?_
  refine wp_seq ?_
  refine wp_region_lit ?_
  refine wl_pure (l' := [(9, v0), (0, v0)]) S tys tys_ok 1 (by kernel_rfl) ?_
  clear S; intro a S
  obtain ⟨t_1, et_1, h⟩ := bindS h
  refine w_go S rfl (op_call (vs := [v0]) S rfl cb17 rfl rfl rfl (c17 (Kx K w.heap.size []) n w x0 _ R0 et_1) ?_)
  rintro _ w_5 ⟨v_2, rfl, R_3, hb_4⟩; refine ⟨_, rfl, ?_⟩
  replace R_3 := RepV.back R_3 W
  clear S; intro a S
  replace R0 := R0.step hb_4
  replace W := W.step hb_4
  obtain ⟨rfl, GR_3⟩ := RepV.int R_3
  refine wl_pure (l' := [(4, .int .i64 t_1), (10, .int .i64 t_1), (9, v0), (0, v0)]) S tys tys_ok 1 (by kernel_rfl) ?_
  clear S; intro a S
  refine wpList_nil ?_
  refine then_n ?_
  replace S := S.sub (l' := [(4, .int .i64 t_1), (0, v0)]) (by exact ⟨rfl, rfl, trivial⟩)
  refine wp_seq ?_
  refine wp_region_lit ?_
  refine wl_pure (l' := [(12, .bool (t_1 != 0)), (11, .int .i64 t_1), (4, .int .i64 t_1), (0, v0)]) S tys tys_ok 2 (by kernel_rfl) ?_
  clear S; intro a S
  refine wpList_nil ?_
  refine then_n ?_
  replace S := S.sub (l' := [(12, .bool (t_1 != 0)), (4, .int .i64 t_1), (0, v0)]) (by exact ⟨rfl, rfl, rfl, trivial⟩)
  refine wp_cond_split (S.eval (show ev _ _ = some (.bool (t_1 != 0)) from rfl)) ?_ ?_
  · intro hc
    rw [if_pos hc] at h
    refine wp_seq ?_
    refine wp_region_lit ?_
    refine wl_pureK (l' := [(3, .int .i64 t_1), (2, .slice .none 0 0)]) S tys tys_ok 3 [3, 2] (by kernel_rfl) ?_
    clear S; intro a S
    refine wpList_nil ?_
    refine then_n ?_
    refine wp_ret ?_
    refine then_r ?_
    obtain rfl := Option.some.inj h
    exact b_ret2 S rfl rfl rfl ⟨_, _, rfl, RepV.nil, (RepV.mkInt GR_3), W.below⟩
  · intro hc
    rw [if_neg (Bool.eq_false_iff.1 hc)] at h
    refine wp_skip ?_
    refine then_n ?_
    replace S := S.sub (l' := [(0, v0)]) (by exact ⟨rfl, trivial⟩)
    refine wp_seq ?_
    refine wp_region_lit ?_
    refine wl_pure (l' := [(15, v0), (0, v0)]) S tys tys_ok 1 (by kernel_rfl) ?_
    clear S; intro a S
    obtain ⟨t_6, et_6, h⟩ := bindS h
    refine w_go S rfl (op_call (vs := [v0, .bool true]) S rfl cb27 rfl rfl rfl (c27 (Kx K w.heap.size []) n w_5 x0 _ R0 true et_6) ?_)
    rintro _ w_12 ⟨v_7, v_8, rfl, R_9, R_10, hb_11⟩; refine ⟨_, rfl, ?_⟩
    have hbhb_11 := hb_11.below
    replace R_9 := Ow.backW R_9 W
    replace R_10 := Ow.backW R_10 W
    clear S; intro a S
    replace R0 := R0.newW hb_11
    replace W : Wd w w_12 [v_7.ownBlock, v_8.ownBlock] := W.newW hb_11
    replace R0 : RepV (.sl gt1) w_12 (Kx K w.heap.size [v_7.ownBlock, v_8.ownBlock]) v0 x0 := R0
    refine wl_pureK (l' := [(6, v_8), (0, v0)]) S tys tys_ok 5 [6, 0] (by kernel_rfl) ?_
    clear S; intro a S
    refine wpList_nil ?_
    refine then_n ?_
    refine wp_seq ?_
    refine wp_seq ?_
    refine wp_region_lit ?_
    refine wl_pure (l' := [(19, v0), (6, v_8), (0, v0)]) S tys tys_ok 1 (by kernel_rfl) ?_
    clear S; intro a S
    refine w_go S rfl (op_len (K := _) S rfl ty24 rfl rfl rfl R0 ?_)
    clear S; intro a G_13 S
    refine wl_pure (l' := [(21, .int .i64 0), (20, .int .i64 (lenI x0)), (19, v0), (6, v_8), (0, v0)]) S tys tys_ok 1 (by kernel_rfl) ?_
    clear S; intro a S
    refine wpList_nil ?_
    refine then_n ?_
    replace S := S.sub (l' := [(21, .int .i64 0), (20, .int .i64 (lenI x0)), (19, v0), (6, v_8)]) (by exact ⟨rfl, rfl, rfl, rfl, trivial⟩)
    obtain ⟨y_24, ey_24, h⟩ := bindS h
    refine wp_cut_ (fun a_ w_ => ∃ (v_25 : Value), St 48 a_ [(6, v_25)] ∧ Wd w w_ [v_7.ownBlock, v_25.ownBlock] ∧ Ow .bool 4 w_ w.heap.size (Kx K w.heap.size [v_7.ownBlock, v_25.ownBlock]) v_25 y_24 t_6.2.cap) ?_ ?_
    · refine wp_block ?_
      refine wp_loop_n (fun m_ a_ w_ => ∃ (c_14 : Int) (c_16 : List (Bool)) , ∃ (v_17 : Value), St 48 a_ [(21, .int .i64 c_14), (20, .int .i64 (lenI x0)), (19, v0), (6, v_17)] ∧ Wd w w_ [v_7.ownBlock, v_17.ownBlock] ∧ InR .i64 c_14 ∧ RepV (.sl gt1) w_ (Kx K w.heap.size [v_7.ownBlock, v_17.ownBlock]) v0 x0 ∧ Ow .bool 4 w_ w.heap.size (Kx K w.heap.size [v_7.ownBlock, v_17.ownBlock]) v_17 c_16 t_6.2.cap ∧ p20_l1 n x0 m_ c_14 c_16 = some y_24) n ?_ ?_
      · skip
        exact ⟨0, t_6.2.xs, ⟨v_8, S.sub (by exact ⟨rfl, rfl, rfl, rfl, trivial⟩), W, (by decide), R0, R_10, ey_24⟩⟩
      · clear S W; rintro m_27 a w_29 ⟨c_14, c_16, v_17, S, W, G_15, R0, O_18, hl_28⟩
        cases m_27 with
        | zero => exact absurd hl_28 (by simp [p20_l1])
        | succ m_27 =>
          refine ⟨m_27, rfl, ?_⟩
          rw [p20_l1] at hl_28
          refine wp_seq ?_
          refine wp_region_lit ?_
          refine wl_pure (l' := [(22, .bool (decide (c_14 < (lenI x0)))), (21, .int .i64 c_14), (20, .int .i64 (lenI x0)), (19, v0), (6, v_17)]) S tys tys_ok 1 (by kernel_rfl) ?_
          clear S; intro a S
          refine wpList_nil ?_
          refine then_n ?_
          refine wp_seq ?_
          refine wp_cond_split (S.eval (show ev _ _ = some (.bool (decide (c_14 < (lenI x0)))) from rfl)) ?_ ?_
          · intro hc
            rw [if_pos hc] at hl_28
            refine wp_skip ?_
            refine then_n ?_
            replace S := S.sub (l' := [(21, .int .i64 c_14), (20, .int .i64 (lenI x0)), (19, v0), (6, v_17)]) (by exact ⟨rfl, rfl, rfl, rfl, trivial⟩)
            refine wp_seq ?_
            refine wp_block ?_
            refine wp_seq ?_
            refine wp_region_lit ?_
            refine wl_pure (l' := [(23, .int .i64 c_14), (21, .int .i64 c_14), (20, .int .i64 (lenI x0)), (19, v0), (6, v_17)]) S tys tys_ok 1 (by kernel_rfl) ?_
            clear S; intro a S
            obtain ⟨y_30, ey_30, hl_28⟩ := bindS hl_28
            refine w_go S rfl (op_indexAddr S rfl ty24 rfl rfl rfl R0 rfl ey_30 ?_)
            clear S; intro a p_31 R_32 H_33 S
            refine w_go S rfl (op_load (t := gt1) (x := y_30) S rfl ty32 rfl rfl rfl R_32 ?_)
            clear S; intro a v_34 R_35 S
            refine w_go S rfl (op_alloc (K := K) (n := w.heap.size) (L := [v_7.ownBlock, v_17.ownBlock]) (t := gt1) (y := (0, 0, false, false, false, false, 0)) S rfl rfl rfl _ z32 (fun w K => ⟨[.int .i64 0], [.int .u8 0, .bool false, .bool false, .bool false, .bool false, .int .i64 0], rfl, ⟨rfl, by decide⟩, ⟨[.int .u8 0], [.bool false, .bool false, .bool false, .bool false, .int .i64 0], rfl, ⟨rfl, by decide⟩, ⟨[.bool false], [.bool false, .bool false, .bool false, .int .i64 0], rfl, rfl, ⟨[.bool false], [.bool false, .bool false, .int .i64 0], rfl, rfl, ⟨[.bool false], [.bool false, .int .i64 0], rfl, rfl, ⟨[.bool false], [.int .i64 0], rfl, rfl, ⟨rfl, by decide⟩⟩⟩⟩⟩⟩⟩) ?_)
            clear S; intro a w_38 b_36 hb_39 B_37 S
            replace R0 := R0.box hb_39
            replace R_35 := R_35.box hb_39
            replace O_18 := O_18.box hb_39
            replace W := W.box hb_39
            refine wl_pure (l' := [(7, .int .i64 c_14), (8, pB b_36), (25, v_34), (24, .pointer (some p_31)), (23, .int .i64 c_14), (21, .int .i64 c_14), (20, .int .i64 (lenI x0)), (19, v0), (6, v_17)]) S tys tys_ok 1 (by kernel_rfl) ?_
            clear S; intro a S
            refine w_go S rfl (op_store (t' := gt1) S rfl rfl ty32 rfl rfl rfl B_37 (by simp) Ln.whole R_35 ?_)
            intro w_40 hw_41 B_
            replace R0 := R0.wrote hw_41 (by simp)
            replace R_35 := R_35.wrote hw_41 (by simp)
            replace O_18 := O_18.wrote hw_41 (by simp) (W.one (p := 2) (q := 0) (by decide) rfl rfl)
            replace W := W.wrote hw_41 (by simp)
            replace B_37 : Bx gt1 32 w_40 (Kx K w.heap.size [some b_36, v_7.ownBlock, v_17.ownBlock]) b_36 y_30 := B_; clear B_
            refine wpList_nil ?_
            refine then_n ?_
            replace S := S.sub (l' := [(7, .int .i64 c_14), (8, pB b_36), (21, .int .i64 c_14), (20, .int .i64 (lenI x0)), (19, v0), (6, v_17)]) (by exact ⟨rfl, rfl, rfl, rfl, rfl, rfl, trivial⟩)
            refine wp_region_lit ?_
            refine wl_pure (l' := [(29, .int .i64 c_14), (28, v_17), (27, .int .i64 c_14), (26, v_17), (7, .int .i64 c_14), (8, pB b_36), (21, .int .i64 c_14), (20, .int .i64 (lenI x0)), (19, v0), (6, v_17)]) S tys tys_ok 4 (by kernel_rfl) ?_
            clear S; intro a S
            obtain ⟨y_42, ey_42, hl_28⟩ := bindS hl_28
            refine w_go S rfl (op_indexAddr_own S rfl ty53 rfl rfl rfl O_18 rfl ey_42 ?_)
            clear S; intro a g_43 H_45 R_44 S
            refine w_go S rfl (op_load (t := .bool) (x := y_42) S rfl ty4 rfl rfl rfl R_44 ?_)
            clear S; intro a v_46 R_47 S
            obtain rfl := RepV.bool R_47
            refine wl_pureK (l' := [(32, .bool y_42), (27, .int .i64 c_14), (26, v_17), (8, pB b_36), (21, .int .i64 c_14), (20, .int .i64 (lenI x0)), (19, v0), (6, v_17)]) S tys tys_ok 1 [32, 27, 26, 8, 21, 20, 19, 6] (by kernel_rfl) ?_
            clear S; intro a S
            obtain ⟨q_48, eq_48, hl_28⟩ := bindS hl_28
            refine seg 11 (fun a_ w_ => w_40 = w_ ∧ St 48 a_ [(43, .bool q_48), (27, .int .i64 c_14), (26, v_17), (21, .int .i64 c_14), (20, .int .i64 (lenI x0)), (19, v0), (6, v_17)]) ?_ ?_
            · by_cases hc : y_42 = false
              · rw [if_pos hc] at eq_48; rw [hc] at S
                refine wl_pure (l' := [(33, .pointer (some ((⟨b_36, 0, .none⟩ : Addr).add (coff gf1 0)))), (32, .bool false), (27, .int .i64 c_14), (26, v_17), (8, pB b_36), (21, .int .i64 c_14), (20, .int .i64 (lenI x0)), (19, v0), (6, v_17)]) S tys tys_ok 1 (by kernel_rfl) ?_
                clear S; intro a S
                refine w_go S rfl (op_load (t := (.int .i64)) (x := y_30.1) S rfl ty3 rfl rfl rfl (RepAt.add 0 (RepAt.st (t := gf1) B_37.at_)) ?_)
                clear S; intro a v_49 R_50 S
                obtain ⟨rfl, GR_50⟩ := RepV.int R_50
                refine wl_pure (l' := [(36, .bool (y_30.1 != (-1))), (35, .bool (y_30.1 != (-1))), (34, .int .i64 y_30.1), (33, .pointer (some ((⟨b_36, 0, .none⟩ : Addr).add (coff gf1 0)))), (32, .bool false), (27, .int .i64 c_14), (26, v_17), (8, pB b_36), (21, .int .i64 c_14), (20, .int .i64 (lenI x0)), (19, v0), (6, v_17)]) S tys tys_ok 2 (by kernel_rfl) ?_
                clear S; intro a S
                obtain ⟨q_51, eq_51, eq_48⟩ := bindS eq_48
                refine seg 6 (fun a_ w_ => w_40 = w_ ∧ St 48 a_ [(42, .bool q_51), (36, .bool (y_30.1 != (-1))), (35, .bool (y_30.1 != (-1))), (34, .int .i64 y_30.1), (33, .pointer (some ((⟨b_36, 0, .none⟩ : Addr).add (coff gf1 0)))), (32, .bool false), (27, .int .i64 c_14), (26, v_17), (21, .int .i64 c_14), (20, .int .i64 (lenI x0)), (19, v0), (6, v_17)]) ?_ ?_
                · by_cases hc : (y_30.1 != (-1)) = true
                  · rw [if_pos hc] at eq_51; rw [hc] at S
                    refine wl_pure (l' := [(38, .pointer (some ((⟨b_36, 0, .none⟩ : Addr).add (coff gf1 0)))), (37, v_17), (36, .bool true), (35, .bool true), (34, .int .i64 y_30.1), (33, .pointer (some ((⟨b_36, 0, .none⟩ : Addr).add (coff gf1 0)))), (32, .bool false), (27, .int .i64 c_14), (26, v_17), (8, pB b_36), (21, .int .i64 c_14), (20, .int .i64 (lenI x0)), (19, v0), (6, v_17)]) S tys tys_ok 2 (by kernel_rfl) ?_
                    clear S; intro a S
                    refine w_go S rfl (op_load (t := (.int .i64)) (x := y_30.1) S rfl ty3 rfl rfl rfl (RepAt.add 0 (RepAt.st (t := gf1) B_37.at_)) ?_)
                    clear S; intro a v_52 R_53 S
                    obtain ⟨rfl, GR_53⟩ := RepV.int R_53
                    obtain ⟨y_54, ey_54, eq_51⟩ := bindS eq_51
                    refine w_go S rfl (op_indexAddr_own S rfl ty53 rfl rfl rfl O_18 rfl ey_54 ?_)
                    clear S; intro a g_55 H_57 R_56 S
                    refine w_go S rfl (op_load (t := .bool) (x := y_54) S rfl ty4 rfl rfl rfl R_56 ?_)
                    clear S; intro a v_58 R_59 S
                    obtain rfl := RepV.bool R_59
                    refine wl_pure (l' := [(42, .bool y_54), (41, .bool y_54), (40, .pointer (some (⟨g_55, y_30.1.toNat * GT.sz .bool, .none⟩ : Addr))), (39, .int .i64 y_30.1), (38, .pointer (some ((⟨b_36, 0, .none⟩ : Addr).add (coff gf1 0)))), (37, v_17), (36, .bool true), (35, .bool true), (34, .int .i64 y_30.1), (33, .pointer (some ((⟨b_36, 0, .none⟩ : Addr).add (coff gf1 0)))), (32, .bool false), (27, .int .i64 c_14), (26, v_17), (8, pB b_36), (21, .int .i64 c_14), (20, .int .i64 (lenI x0)), (19, v0), (6, v_17)]) S tys tys_ok 1 (by kernel_rfl) ?_
                    clear S; intro a S
                    obtain rfl := Option.some.inj eq_51
                    exact ⟨rfl, S.sub (by exact ⟨rfl, (by rw [show (y_30.1 != (-1)) = true from hc]; rfl), (by rw [show (y_30.1 != (-1)) = true from hc]; rfl), rfl, rfl, rfl, rfl, rfl, rfl, rfl, rfl, rfl, trivial⟩)⟩
                  · rw [if_neg hc] at eq_51; rw [show (y_30.1 != (-1)) = false from Bool.eq_false_iff.2 hc] at S
                    refine wl_pure (l' := [(42, .bool false), (41, undef), (40, undef), (39, undef), (38, undef), (37, undef), (36, .bool false), (35, .bool false), (34, .int .i64 y_30.1), (33, .pointer (some ((⟨b_36, 0, .none⟩ : Addr).add (coff gf1 0)))), (32, .bool false), (27, .int .i64 c_14), (26, v_17), (8, pB b_36), (21, .int .i64 c_14), (20, .int .i64 (lenI x0)), (19, v0), (6, v_17)]) S tys tys_ok 6 (by kernel_rfl) ?_
                    clear S; intro a S
                    obtain rfl := Option.some.inj eq_51
                    exact ⟨rfl, S.sub (by exact ⟨rfl, (by rw [show (y_30.1 != (-1)) = false from Bool.eq_false_iff.2 hc]; rfl), (by rw [show (y_30.1 != (-1)) = false from Bool.eq_false_iff.2 hc]; rfl), rfl, rfl, rfl, rfl, rfl, rfl, rfl, rfl, rfl, trivial⟩)⟩
                clear S eq_51; rintro a _ ⟨rfl, S⟩
                refine wl_pure (l' := [(43, .bool q_51), (42, .bool q_51), (36, .bool (y_30.1 != (-1))), (35, .bool (y_30.1 != (-1))), (34, .int .i64 y_30.1), (33, .pointer (some ((⟨b_36, 0, .none⟩ : Addr).add (coff gf1 0)))), (32, .bool false), (27, .int .i64 c_14), (26, v_17), (21, .int .i64 c_14), (20, .int .i64 (lenI x0)), (19, v0), (6, v_17)]) S tys tys_ok 1 (by kernel_rfl) ?_
                clear S; intro a S
                obtain rfl := Option.some.inj eq_48
                exact ⟨rfl, S.sub (by exact ⟨rfl, rfl, rfl, rfl, rfl, rfl, rfl, trivial⟩)⟩
              · rw [if_neg hc] at eq_48; rw [show y_42 = true from (by simpa using hc)] at S
                refine wl_pure (l' := [(43, .bool true), (42, undef), (41, undef), (40, undef), (39, undef), (38, undef), (37, undef), (36, undef), (35, undef), (34, undef), (33, undef), (32, .bool true), (27, .int .i64 c_14), (26, v_17), (8, pB b_36), (21, .int .i64 c_14), (20, .int .i64 (lenI x0)), (19, v0), (6, v_17)]) S tys tys_ok 11 (by kernel_rfl) ?_
                clear S; intro a S
                obtain rfl := Option.some.inj eq_48
                exact ⟨rfl, S.sub (by exact ⟨rfl, rfl, rfl, rfl, rfl, rfl, rfl, trivial⟩)⟩
            clear S eq_48; rintro a _ ⟨rfl, S⟩
            obtain ⟨y_60, ey_60, hl_28⟩ := bindS hl_28
            refine w_go S rfl (op_indexAddr_own S rfl ty53 rfl rfl rfl O_18 rfl ey_60 ?_)
            clear S; intro a g_61 H_63 R_62 S
            refine w_go S rfl (op_store_own (t' := .bool) S rfl rfl ty4 rfl rfl rfl O_18 H_63 2 rfl (idx_some ey_60).2.1 Ln.whole (RepV.mkBool : RepV .bool w_40 (Kx K w.heap.size [some b_36, v_7.ownBlock, v_17.ownBlock]) _ q_48) ?_)
            intro w_64 hw_65 hm_67 O_66
            replace R0 := R0.wrote hw_65 hm_67
            replace B_37 := B_37.wrote hw_65 hm_67 (by have h_ := W.one (p := 2) (q := 0) (by decide) rfl rfl; exact fun e_ => h_ (by rw [e_]; exact H_63))
            replace W := W.wrote hw_65 hm_67
            replace O_66 : Ow .bool 4 w_64 w.heap.size (Kx K w.heap.size [some b_36, v_7.ownBlock, v_17.ownBlock]) v_17 (c_16.set c_14.toNat q_48) t_6.2.cap := O_66
            refine wpList_nil ?_
            refine blk_n ?_
            refine then_n ?_
            replace S := S.sub (l' := [(21, .int .i64 c_14), (20, .int .i64 (lenI x0)), (19, v0), (6, v_17)]) (by exact ⟨rfl, rfl, rfl, rfl, trivial⟩)
            refine wp_region_lit ?_
            obtain ⟨x_68, ex_68, hl_28⟩ := bindS hl_28
            refine w_go S rfl (op_arith S .i64 (c_14 + 1) rfl (.inl rfl) rfl rfl rfl rfl ex_68 ?_)
            clear S; intro a S
            refine wl_pure (l' := [(21, .int .i64 x_68), (45, .int .i64 x_68), (21, .int .i64 c_14), (20, .int .i64 (lenI x0)), (19, v0), (6, v_17)]) S tys tys_ok 1 (by kernel_rfl) ?_
            clear S; intro a S
            refine wpList_nil ?_
            refine then_n ?_
            exact ⟨x_68, (c_16.set c_14.toNat q_48), ⟨v_17, S.sub (by exact ⟨rfl, rfl, rfl, rfl, trivial⟩), (W.drop 1), (ckI_some ex_68).2.1, (R0.drop 1), (O_66.drop 1), hl_28⟩⟩
          · intro hc
            rw [if_neg (Bool.eq_false_iff.1 hc)] at hl_28
            refine wp_exit ?_
            refine then_x ?_
            refine then_x ?_
            refine blk_hit ?_
            refine then_n ?_
            obtain rfl := Option.some.inj hl_28
            exact ⟨v_17, S.sub (by exact ⟨rfl, trivial⟩), W, O_18⟩
    clear S W; rintro a w_69 ⟨v_25, S, W, O_26⟩
    refine then_n ?_
    refine wp_seq ?_
    refine wp_region_lit ?_
    refine wl_pure (l' := [(46, v_25), (6, v_25)]) S tys tys_ok 1 (by kernel_rfl) ?_
    clear S; intro a S
    have R_70 : RepV (.sl .bool) w_69 (Kx K w.heap.size [v_7.ownBlock]) v_25 (⟨y_24, t_6.2.cap⟩ : Sl (Bool)) := O_26.pubAt W 1 rfl
    replace W : Wd w w_69 [v_7.ownBlock] := W.lessAt 1
    obtain ⟨t_71, et_71, h⟩ := bindS h
    refine w_go S rfl (op_call (vs := [v_25]) S rfl cb29 rfl rfl rfl (c29 (Kx K w.heap.size [v_7.ownBlock]) n w_69 (⟨y_24, t_6.2.cap⟩ : Sl (Bool)) _ R_70 et_71) ?_)
    rintro _ w_75 ⟨v_72, rfl, R_73, hb_74⟩; refine ⟨_, rfl, ?_⟩
    replace R_73 := RepV.back R_73 W
    clear S; intro a S
    replace R_70 := R_70.step hb_74
    replace W := W.step hb_74
    refine wl_pureK (l' := [(3, .int .i64 0), (2, v_72)]) S tys tys_ok 2 [3, 2] (by kernel_rfl) ?_
    clear S; intro a S
    refine wpList_nil ?_
    refine then_n ?_
    refine wp_ret ?_
    obtain rfl := Option.some.inj h
    exact b_ret2 S rfl rfl rfl ⟨_, _, rfl, R_73.out, (RepV.mkInt (by decide)), W.below⟩
theorem cb20 : callB Try.prog 20 = true := by kernel_rfl
def p22_r1 (n : Nat) (t_100 : (Sl (Int)) × (Sl (Bool))) (s_ : Unit) (x_ : (Int)) : Option (Nat × (Unit)) :=
  (idx t_100.2.xs x_).bind fun y_133 => if y_133 then (some (1, ())) else some (0, ())
def p22 (n : Nat) (x0 : Sl (Int × Int × Bool × Bool × Bool × Bool × Int)) (x1 : Int) (x2 : Int) : Option ((Bool) × (Int)) :=
  (p17 n x0).bind fun t_9 =>
  if (t_9 != 0) then (some (false, t_9)) else (if (decide (x1 < 0)) = false then some (decide (x1 ≥ (lenI x0))) else some true).bind fun q_24 => (if q_24 = false then some (decide (x2 < 0)) else some true).bind fun q_26 => (if q_26 = false then some (decide (x2 > 500)) else some true).bind fun q_27 => (if q_27 = false then (p31 n x0 x1).bind fun t_29 => some (!t_29) else some true).bind fun q_28 => (if q_28 = false then (idx x0.xs x1).bind fun y_36 => (if (y_36.1 != (-1)) = true then (idx x0.xs x1).bind fun y_43 => (idx x0.xs y_43.1).bind fun y_49 => some y_49.2.2.2.2.2.1 else some false).bind fun q_42 => some q_42 else some true).bind fun q_35 => if q_35 then (some (false, 1)) else (mkI (lenI x0) (lenI x0)).bind fun m_66 => (idx (cpyI (List.replicate m_66.1 ((0, 0, false, false, false, false, 0) : Int × Int × Bool × Bool × Bool × Bool × Int)) x0.xs) x1).bind fun y_75 => (idx ((cpyI (List.replicate m_66.1 ((0, 0, false, false, false, false, 0) : Int × Int × Bool × Bool × Bool × Bool × Int)) x0.xs).set x1.toNat (y_75.1, y_75.2.1, y_75.2.2.1, y_75.2.2.2.1, true, y_75.2.2.2.2.2.1, y_75.2.2.2.2.2.2)) x1).bind fun y_83 => (idx (((cpyI (List.replicate m_66.1 ((0, 0, false, false, false, false, 0) : Int × Int × Bool × Bool × Bool × Bool × Int)) x0.xs).set x1.toNat (y_75.1, y_75.2.1, y_75.2.2.1, y_75.2.2.2.1, true, y_75.2.2.2.2.2.1, y_75.2.2.2.2.2.2)).set x1.toNat (y_83.1, y_83.2.1, y_83.2.2.1, y_83.2.2.2.1, y_83.2.2.2.2.1, false, y_83.2.2.2.2.2.2)) x1).bind fun y_91 => (p27 n (⟨((((cpyI (List.replicate m_66.1 ((0, 0, false, false, false, false, 0) : Int × Int × Bool × Bool × Bool × Bool × Int)) x0.xs).set x1.toNat (y_75.1, y_75.2.1, y_75.2.2.1, y_75.2.2.2.1, true, y_75.2.2.2.2.2.1, y_75.2.2.2.2.2.2)).set x1.toNat (y_83.1, y_83.2.1, y_83.2.2.1, y_83.2.2.2.1, y_83.2.2.2.2.1, false, y_83.2.2.2.2.2.2)).set x1.toNat (y_91.1, y_91.2.1, y_91.2.2.1, y_91.2.2.2.1, y_91.2.2.2.2.1, y_91.2.2.2.2.2.1, x2)), some m_66.2⟩ : Sl (Int × Int × Bool × Bool × Bool × Bool × Int)) false).bind fun t_100 => (p32 n (⟨((((cpyI (List.replicate m_66.1 ((0, 0, false, false, false, false, 0) : Int × Int × Bool × Bool × Bool × Bool × Int)) x0.xs).set x1.toNat (y_75.1, y_75.2.1, y_75.2.2.1, y_75.2.2.2.1, true, y_75.2.2.2.2.2.1, y_75.2.2.2.2.2.2)).set x1.toNat (y_83.1, y_83.2.1, y_83.2.2.1, y_83.2.2.2.1, y_83.2.2.2.2.1, false, y_83.2.2.2.2.2.2)).set x1.toNat (y_91.1, y_91.2.1, y_91.2.2.1, y_91.2.2.2.1, y_91.2.2.2.2.1, y_91.2.2.2.2.2.1, x2)), some m_66.2⟩ : Sl (Int × Int × Bool × Bool × Bool × Bool × Int)) x1).bind fun t_113 => (p37 n t_113.1 t_113.2 (Nat × (Unit)) (rnd (p22_r1 n t_100)) (0, ())).bind fun (y_126 : Nat × (Unit)) => if y_126.1 = 1 then (some (false, 0)) else (idx t_100.2.xs x1).bind fun y_157 => some ((!y_157), 0)
set_option maxHeartbeats 4000000 in
set_option maxRecDepth 100000 in
/-- plugboard/powers.Admits -/
theorem c22 (K : Nat → Prop) (n : Nat) (w : World) (x0 : Sl (Int × Int × Bool × Bool × Bool × Bool × Int)) (v0 : Value) (R0 : RepV (.sl gt1) w K v0 x0) (x1 : Int) (G1 : InR .i64 x1) (x2 : Int) (G2 : InR .i64 x2) {r : (Bool) × (Int)} (h : p22 n x0 x1 x2 = some r) :
    Calls Try.prog 22 #[v0, .int .i64 x1, .int .i64 x2] w (Ret2 .bool (.int .i64) w (Kx K w.heap.size []) r) := by
  refine R.enter (args := [v0, .int .i64 x1, .int .i64 x2]) Try.func22 rfl 96 rfl rfl (fun _ h_ => by obtain ⟨_, _, q_, _⟩ := h_; cases q_) fun a S => ?_
  have W := Wd.start w
  replace R0 := R0.arg
  unfold p22 at h
  replace S : St 96 a [(0, v0), (1, .int .i64 x1), (2, .int .i64 x2)] := S
  refine R.wp_seq ?_
  refine R.wp_region_lit ?_
  refine R.w_go S rfl (op_alloc (K := K) (n := w.heap.size) (L := []) (t := .bool) (y := false) S rfl rfl rfl _ z4 (fun w K => rfl) ?_)
  clear S; intro a w_3 b_1 hb_4 B_2 S
  replace R0 := R0.box hb_4
  replace W := W.box hb_4
  refine R.w_go S rfl (op_alloc (K := K) (n := w.heap.size) (L := [some b_1]) (t := (.int .i64)) (y := 0) S rfl rfl rfl _ z33 (fun w K => ⟨rfl, by decide⟩) ?_)
  clear S; intro a w_7 b_5 hb_8 B_6 S
  replace R0 := R0.box hb_8
  replace B_2 := B_2.box hb_8
  replace W := W.box hb_8
  refine R.wpList_nil ?_
  refine then_n ?_
  refine R.wp_seq ?_
  refine R.wp_seq ?_
  refine R.wp_region_lit ?_
  refine R.wl_pure (l' := [(13, v0), (7, pB b_5), (6, pB b_1), (0, v0), (1, .int .i64 x1), (2, .int .i64 x2)]) S tys tys_ok 1 (by kernel_rfl) ?_
  clear S; intro a S
  obtain ⟨t_9, et_9, h⟩ := bindS h
  refine R.w_go S rfl (op_call (vs := [v0]) S rfl cb17 rfl rfl rfl (c17 (Kx K w.heap.size [some b_5, some b_1]) n w_7 x0 _ R0 et_9) ?_)
  rintro _ w_13 ⟨v_10, rfl, R_11, hb_12⟩; refine ⟨_, rfl, ?_⟩
  replace R_11 := RepV.back R_11 W
  clear S; intro a S
  replace R0 := R0.step hb_12
  replace B_2 := B_2.step hb_12
  replace B_6 := B_6.step hb_12
  replace W := W.step hb_12
  obtain ⟨rfl, GR_11⟩ := RepV.int R_11
  refine R.wl_pure (l' := [(8, .int .i64 t_9), (14, .int .i64 t_9), (13, v0), (7, pB b_5), (6, pB b_1), (0, v0), (1, .int .i64 x1), (2, .int .i64 x2)]) S tys tys_ok 1 (by kernel_rfl) ?_
  clear S; intro a S
  refine R.wpList_nil ?_
  refine then_n ?_
  replace S := S.sub (l' := [(8, .int .i64 t_9), (7, pB b_5), (6, pB b_1), (0, v0), (1, .int .i64 x1), (2, .int .i64 x2)]) (by exact ⟨rfl, rfl, rfl, rfl, rfl, rfl, trivial⟩)
  refine R.wp_seq ?_
  refine R.wp_region_lit ?_
  refine R.wl_pure (l' := [(16, .bool (t_9 != 0)), (15, .int .i64 t_9), (8, .int .i64 t_9), (7, pB b_5), (6, pB b_1), (0, v0), (1, .int .i64 x1), (2, .int .i64 x2)]) S tys tys_ok 2 (by kernel_rfl) ?_
  clear S; intro a S
  refine R.wpList_nil ?_
  refine then_n ?_
  replace S := S.sub (l' := [(16, .bool (t_9 != 0)), (8, .int .i64 t_9), (7, pB b_5), (6, pB b_1), (0, v0), (1, .int .i64 x1), (2, .int .i64 x2)]) (by exact ⟨rfl, rfl, rfl, rfl, rfl, rfl, rfl, trivial⟩)
  refine R.wp_cond_split (S.eval (show ev _ _ = some (.bool (t_9 != 0)) from rfl)) ?_ ?_
  · intro hc
    rw [if_pos hc] at h
    refine R.wp_seq ?_
    refine R.wp_region_lit ?_
    refine R.wl_pureK (l' := [(17, .int .i64 t_9), (7, pB b_5), (6, pB b_1)]) S tys tys_ok 1 [17, 7, 6] (by kernel_rfl) ?_
    clear S; intro a S
    refine R.w_go S rfl (op_store (t' := .bool) S rfl rfl ty4 rfl rfl rfl B_2 (by simp) Ln.whole (RepV.mkBool : RepV .bool w_13 (Kx K w.heap.size [some b_5, some b_1]) _ false) ?_)
    intro w_14 hw_15 B_
    replace B_6 := B_6.wrote hw_15 (by simp) (W.bne (p := 0) (q := 1) (by decide) rfl rfl)
    replace W := W.wrote hw_15 (by simp)
    replace B_2 : Bx .bool 4 w_14 (Kx K w.heap.size [some b_5, some b_1]) b_1 false := B_; clear B_
    refine R.w_go S rfl (op_store (t' := (.int .i64)) S rfl rfl ty33 rfl rfl rfl B_6 (by simp) Ln.whole ((RepV.mkInt GR_11) : RepV (.int .i64) w_14 (Kx K w.heap.size [some b_5, some b_1]) _ t_9) ?_)
    intro w_16 hw_17 B_
    replace B_2 := B_2.wrote hw_17 (by simp) (W.bne (p := 1) (q := 0) (by decide) rfl rfl)
    replace W := W.wrote hw_17 (by simp)
    replace B_6 : Bx (.int .i64) 33 w_16 (Kx K w.heap.size [some b_5, some b_1]) b_5 t_9 := B_; clear B_
    refine R.wpList_nil ?_
    refine then_n ?_
    replace S := S.sub (l' := [(7, pB b_5), (6, pB b_1)]) (by exact ⟨rfl, rfl, trivial⟩)
    refine R.wp_ret ?_
    refine then_r ?_
    refine R.leave0 S ?_ (by simp)
    clear S; intro a S
    obtain ⟨v_18, hr_19, R_20⟩ := res_cell (P := Try.prog) (T := 4) (t := .bool) (x := false) S (s := 6) rfl ty4 B_2.at_
    obtain ⟨v_21, hr_22, R_23⟩ := res_cell (P := Try.prog) (T := 33) (t := (.int .i64)) (x := t_9) S (s := 7) rfl ty33 B_6.at_
    obtain rfl := Option.some.inj h
    exact b_res2 S rfl hr_19 hr_22 ⟨_, _, rfl, R_20.out, R_23.out, W.below⟩
  · intro hc
    rw [if_neg (Bool.eq_false_iff.1 hc)] at h
    refine R.wp_skip ?_
    refine then_n ?_
    replace S := S.sub (l' := [(7, pB b_5), (6, pB b_1), (0, v0), (1, .int .i64 x1), (2, .int .i64 x2)]) (by exact ⟨rfl, rfl, rfl, rfl, rfl, trivial⟩)
    refine R.wp_seq ?_
    refine R.wp_seq ?_
    refine R.wp_region_lit ?_
    refine R.wl_pure (l' := [(20, .bool (decide (x1 < 0))), (19, .bool (decide (x1 < 0))), (18, .int .i64 x1), (7, pB b_5), (6, pB b_1), (0, v0), (1, .int .i64 x1), (2, .int .i64 x2)]) S tys tys_ok 3 (by kernel_rfl) ?_
    clear S; intro a S
    obtain ⟨q_24, eq_24, h⟩ := bindS h
    refine R.seg 5 (fun a_ w_ => w_13 = w_ ∧ St 96 a_ [(25, .bool q_24), (7, pB b_5), (6, pB b_1), (0, v0), (1, .int .i64 x1), (2, .int .i64 x2)]) ?_ ?_
    · by_cases hc : (decide (x1 < 0)) = false
      · rw [if_pos hc] at eq_24; rw [hc] at S
        refine R.wl_pure (l' := [(22, v0), (21, .int .i64 x1), (20, .bool false), (19, .bool false), (18, .int .i64 x1), (7, pB b_5), (6, pB b_1), (0, v0), (1, .int .i64 x1), (2, .int .i64 x2)]) S tys tys_ok 2 (by kernel_rfl) ?_
        clear S; intro a S
        refine R.w_go S rfl (op_len (K := _) S rfl ty24 rfl rfl rfl R0 ?_)
        clear S; intro a G_25 S
        refine R.wl_pureK (l' := [(25, .bool (decide (x1 ≥ (lenI x0)))), (7, pB b_5), (6, pB b_1), (0, v0), (1, .int .i64 x1), (2, .int .i64 x2)]) S tys tys_ok 2 [25, 7, 6, 0, 1, 2] (by kernel_rfl) ?_
        clear S; intro a S
        obtain rfl := Option.some.inj eq_24
        refine R.wpList_nil ?_
        exact ⟨rfl, S.sub (by exact ⟨rfl, rfl, rfl, rfl, rfl, rfl, trivial⟩)⟩
      · rw [if_neg hc] at eq_24; rw [show (decide (x1 < 0)) = true from (by simpa using hc)] at S
        refine R.wl_pureK (l' := [(25, .bool true), (7, pB b_5), (6, pB b_1), (0, v0), (1, .int .i64 x1), (2, .int .i64 x2)]) S tys tys_ok 5 [25, 7, 6, 0, 1, 2] (by kernel_rfl) ?_
        clear S; intro a S
        obtain rfl := Option.some.inj eq_24
        refine R.wpList_nil ?_
        exact ⟨rfl, S.sub (by exact ⟨rfl, rfl, rfl, rfl, rfl, rfl, trivial⟩)⟩
    clear S eq_24; rintro a _ ⟨rfl, S⟩
    refine R.wl_pure (l' := [(26, .bool q_24), (25, .bool q_24), (7, pB b_5), (6, pB b_1), (0, v0), (1, .int .i64 x1), (2, .int .i64 x2)]) S tys tys_ok 1 (by kernel_rfl) ?_
    clear S; intro a S
    obtain ⟨q_26, eq_26, h⟩ := bindS h
    refine R.seg 3 (fun a_ w_ => w_13 = w_ ∧ St 96 a_ [(29, .bool q_26), (7, pB b_5), (6, pB b_1), (0, v0), (1, .int .i64 x1), (2, .int .i64 x2)]) ?_ ?_
    · by_cases hc : q_24 = false
      · rw [if_pos hc] at eq_26; rw [hc] at S
        refine R.wl_pureK (l' := [(29, .bool (decide (x2 < 0))), (7, pB b_5), (6, pB b_1), (0, v0), (1, .int .i64 x1), (2, .int .i64 x2)]) S tys tys_ok 3 [29, 7, 6, 0, 1, 2] (by kernel_rfl) ?_
        clear S; intro a S
        obtain rfl := Option.some.inj eq_26
        refine R.wpList_nil ?_
        exact ⟨rfl, S.sub (by exact ⟨rfl, rfl, rfl, rfl, rfl, rfl, trivial⟩)⟩
      · rw [if_neg hc] at eq_26; rw [show q_24 = true from (by simpa using hc)] at S
        refine R.wl_pureK (l' := [(29, .bool true), (7, pB b_5), (6, pB b_1), (0, v0), (1, .int .i64 x1), (2, .int .i64 x2)]) S tys tys_ok 3 [29, 7, 6, 0, 1, 2] (by kernel_rfl) ?_
        clear S; intro a S
        obtain rfl := Option.some.inj eq_26
        refine R.wpList_nil ?_
        exact ⟨rfl, S.sub (by exact ⟨rfl, rfl, rfl, rfl, rfl, rfl, trivial⟩)⟩
    clear S eq_26; rintro a _ ⟨rfl, S⟩
    refine R.wl_pure (l' := [(30, .bool q_26), (29, .bool q_26), (7, pB b_5), (6, pB b_1), (0, v0), (1, .int .i64 x1), (2, .int .i64 x2)]) S tys tys_ok 1 (by kernel_rfl) ?_
    clear S; intro a S
    obtain ⟨q_27, eq_27, h⟩ := bindS h
    refine R.seg 3 (fun a_ w_ => w_13 = w_ ∧ St 96 a_ [(33, .bool q_27), (7, pB b_5), (6, pB b_1), (0, v0), (1, .int .i64 x1), (2, .int .i64 x2)]) ?_ ?_
    · by_cases hc : q_26 = false
      · rw [if_pos hc] at eq_27; rw [hc] at S
        refine R.wl_pureK (l' := [(33, .bool (decide (x2 > 500))), (7, pB b_5), (6, pB b_1), (0, v0), (1, .int .i64 x1), (2, .int .i64 x2)]) S tys tys_ok 3 [33, 7, 6, 0, 1, 2] (by kernel_rfl) ?_
        clear S; intro a S
        obtain rfl := Option.some.inj eq_27
        refine R.wpList_nil ?_
        exact ⟨rfl, S.sub (by exact ⟨rfl, rfl, rfl, rfl, rfl, rfl, trivial⟩)⟩
      · rw [if_neg hc] at eq_27; rw [show q_26 = true from (by simpa using hc)] at S
        refine R.wl_pureK (l' := [(33, .bool true), (7, pB b_5), (6, pB b_1), (0, v0), (1, .int .i64 x1), (2, .int .i64 x2)]) S tys tys_ok 3 [33, 7, 6, 0, 1, 2] (by kernel_rfl) ?_
        clear S; intro a S
        obtain rfl := Option.some.inj eq_27
        refine R.wpList_nil ?_
        exact ⟨rfl, S.sub (by exact ⟨rfl, rfl, rfl, rfl, rfl, rfl, trivial⟩)⟩
    clear S eq_27; rintro a _ ⟨rfl, S⟩
    refine R.wl_pure (l' := [(34, .bool q_27), (33, .bool q_27), (7, pB b_5), (6, pB b_1), (0, v0), (1, .int .i64 x1), (2, .int .i64 x2)]) S tys tys_ok 1 (by kernel_rfl) ?_
    clear S; intro a S
    obtain ⟨q_28, eq_28, h⟩ := bindS h
    refine R.seg 5 (fun a_ w_ => St 96 a_ [(39, .bool q_28), (7, pB b_5), (6, pB b_1), (0, v0), (1, .int .i64 x1), (2, .int .i64 x2)] ∧ Wd w w_ [some b_5, some b_1] ∧ RepV (.sl gt1) w_ (Kx K w.heap.size [some b_5, some b_1]) v0 x0 ∧ Bx .bool 4 w_ (Kx K w.heap.size [some b_5, some b_1]) b_1 false ∧ Bx (.int .i64) 33 w_ (Kx K w.heap.size [some b_5, some b_1]) b_5 0) ?_ ?_
    · by_cases hc : q_27 = false
      · rw [if_pos hc] at eq_28; rw [hc] at S
        refine R.wl_pure (l' := [(36, .int .i64 x1), (35, v0), (34, .bool false), (33, .bool false), (7, pB b_5), (6, pB b_1), (0, v0), (1, .int .i64 x1), (2, .int .i64 x2)]) S tys tys_ok 2 (by kernel_rfl) ?_
        clear S; intro a S
        obtain ⟨t_29, et_29, eq_28⟩ := bindS eq_28
        refine R.w_go S rfl (op_call (vs := [v0, .int .i64 x1]) S rfl cb31 rfl rfl rfl (c31 (Kx K w.heap.size [some b_5, some b_1]) n w_13 x0 _ R0 x1 G1 et_29) ?_)
        rintro _ w_33 ⟨v_30, rfl, R_31, hb_32⟩; refine ⟨_, rfl, ?_⟩
        replace R_31 := RepV.back R_31 W
        clear S; intro a S
        replace R0 := R0.step hb_32
        replace B_2 := B_2.step hb_32
        replace B_6 := B_6.step hb_32
        replace W := W.step hb_32
        obtain rfl := RepV.bool R_31
        refine R.wl_pureK (l' := [(39, .bool (!t_29)), (7, pB b_5), (6, pB b_1), (0, v0), (1, .int .i64 x1), (2, .int .i64 x2)]) S tys tys_ok 2 [39, 7, 6, 0, 1, 2] (by kernel_rfl) ?_
        clear S; intro a S
        obtain rfl := Option.some.inj eq_28
        refine R.wpList_nil ?_
        exact ⟨S.sub (by exact ⟨rfl, rfl, rfl, rfl, rfl, rfl, trivial⟩), W, R0, B_2, B_6⟩
      · rw [if_neg hc] at eq_28; rw [show q_27 = true from (by simpa using hc)] at S
        refine R.wl_pureK (l' := [(39, .bool true), (7, pB b_5), (6, pB b_1), (0, v0), (1, .int .i64 x1), (2, .int .i64 x2)]) S tys tys_ok 5 [39, 7, 6, 0, 1, 2] (by kernel_rfl) ?_
        clear S; intro a S
        obtain rfl := Option.some.inj eq_28
        refine R.wpList_nil ?_
        exact ⟨S.sub (by exact ⟨rfl, rfl, rfl, rfl, rfl, rfl, trivial⟩), W, R0, B_2, B_6⟩
    clear S W eq_28; rintro a w_34 ⟨S, W, R0, B_2, B_6⟩
    refine R.wl_pure (l' := [(40, .bool q_28), (39, .bool q_28), (7, pB b_5), (6, pB b_1), (0, v0), (1, .int .i64 x1), (2, .int .i64 x2)]) S tys tys_ok 1 (by kernel_rfl) ?_
    clear S; intro a S
    obtain ⟨q_35, eq_35, h⟩ := bindS h
    refine R.seg 18 (fun a_ w_ => w_34 = w_ ∧ St 96 a_ [(58, .bool q_35), (7, pB b_5), (6, pB b_1), (0, v0), (1, .int .i64 x1), (2, .int .i64 x2)]) ?_ ?_
    · by_cases hc : q_28 = false
      · rw [if_pos hc] at eq_35; rw [hc] at S
        refine R.wl_pure (l' := [(42, .int .i64 x1), (41, v0), (40, .bool false), (39, .bool false), (7, pB b_5), (6, pB b_1), (0, v0), (1, .int .i64 x1), (2, .int .i64 x2)]) S tys tys_ok 2 (by kernel_rfl) ?_
        clear S; intro a S
        obtain ⟨y_36, ey_36, eq_35⟩ := bindS eq_35
        refine R.w_go S rfl (op_indexAddr S rfl ty24 rfl rfl rfl R0 rfl ey_36 ?_)
        clear S; intro a p_37 R_38 H_39 S
        refine R.wl_pureK (l' := [(44, .pointer (some (p_37.add (coff gf1 0)))), (40, .bool false), (7, pB b_5), (6, pB b_1), (0, v0), (1, .int .i64 x1), (2, .int .i64 x2)]) S tys tys_ok 1 [44, 40, 7, 6, 0, 1, 2] (by kernel_rfl) ?_
        clear S; intro a S
        refine R.w_go S rfl (op_load (t := (.int .i64)) (x := y_36.1) S rfl ty3 rfl rfl rfl (RepAt.add 0 (RepAt.st (t := gf1) R_38)) ?_)
        clear S; intro a v_40 R_41 S
        obtain ⟨rfl, GR_41⟩ := RepV.int R_41
        refine R.wl_pureK (l' := [(47, .bool (y_36.1 != (-1))), (40, .bool false), (7, pB b_5), (6, pB b_1), (0, v0), (1, .int .i64 x1), (2, .int .i64 x2)]) S tys tys_ok 2 [47, 40, 7, 6, 0, 1, 2] (by kernel_rfl) ?_
        clear S; intro a S
        obtain ⟨q_42, eq_42, eq_35⟩ := bindS eq_35
        refine R.seg 10 (fun a_ w_ => w_34 = w_ ∧ St 96 a_ [(57, .bool q_42), (40, .bool false), (7, pB b_5), (6, pB b_1), (0, v0), (1, .int .i64 x1), (2, .int .i64 x2)]) ?_ ?_
        · by_cases hc : (y_36.1 != (-1)) = true
          · rw [if_pos hc] at eq_42; rw [hc] at S
            refine R.wl_pure (l' := [(50, .int .i64 x1), (49, v0), (48, v0), (47, .bool true), (40, .bool false), (7, pB b_5), (6, pB b_1), (0, v0), (1, .int .i64 x1), (2, .int .i64 x2)]) S tys tys_ok 3 (by kernel_rfl) ?_
            clear S; intro a S
            obtain ⟨y_43, ey_43, eq_42⟩ := bindS eq_42
            refine R.w_go S rfl (op_indexAddr S rfl ty24 rfl rfl rfl R0 rfl ey_43 ?_)
            clear S; intro a p_44 R_45 H_46 S
            refine R.wl_pureK (l' := [(52, .pointer (some (p_44.add (coff gf1 0)))), (48, v0), (47, .bool true), (40, .bool false), (7, pB b_5), (6, pB b_1), (0, v0), (1, .int .i64 x1), (2, .int .i64 x2)]) S tys tys_ok 1 [52, 48, 47, 40, 7, 6, 0, 1, 2] (by kernel_rfl) ?_
            clear S; intro a S
            refine R.w_go S rfl (op_load (t := (.int .i64)) (x := y_43.1) S rfl ty3 rfl rfl rfl (RepAt.add 0 (RepAt.st (t := gf1) R_45)) ?_)
            clear S; intro a v_47 R_48 S
            obtain ⟨rfl, GR_48⟩ := RepV.int R_48
            obtain ⟨y_49, ey_49, eq_42⟩ := bindS eq_42
            refine R.w_go S rfl (op_indexAddr S rfl ty24 rfl rfl rfl R0 rfl ey_49 ?_)
            clear S; intro a p_50 R_51 H_52 S
            refine R.wl_pureK (l' := [(55, .pointer (some (p_50.add (coff gf1 5)))), (47, .bool true), (40, .bool false), (7, pB b_5), (6, pB b_1), (0, v0), (1, .int .i64 x1), (2, .int .i64 x2)]) S tys tys_ok 1 [55, 47, 40, 7, 6, 0, 1, 2] (by kernel_rfl) ?_
            clear S; intro a S
            refine R.w_go S rfl (op_load (t := .bool) (x := y_49.2.2.2.2.2.1) S rfl ty4 rfl rfl rfl (RepAt.add 5 (RepAt.st (t := gf1) R_51)) ?_)
            clear S; intro a v_53 R_54 S
            obtain rfl := RepV.bool R_54
            refine R.wl_pureK (l' := [(57, .bool y_49.2.2.2.2.2.1), (40, .bool false), (7, pB b_5), (6, pB b_1), (0, v0), (1, .int .i64 x1), (2, .int .i64 x2)]) S tys tys_ok 1 [57, 40, 7, 6, 0, 1, 2] (by kernel_rfl) ?_
            clear S; intro a S
            obtain rfl := Option.some.inj eq_42
            refine R.wpList_nil ?_
            exact ⟨rfl, S.sub (by exact ⟨rfl, rfl, rfl, rfl, rfl, rfl, rfl, trivial⟩)⟩
          · rw [if_neg hc] at eq_42; rw [show (y_36.1 != (-1)) = false from Bool.eq_false_iff.2 hc] at S
            refine R.wl_pureK (l' := [(57, .bool false), (40, .bool false), (7, pB b_5), (6, pB b_1), (0, v0), (1, .int .i64 x1), (2, .int .i64 x2)]) S tys tys_ok 10 [57, 40, 7, 6, 0, 1, 2] (by kernel_rfl) ?_
            clear S; intro a S
            obtain rfl := Option.some.inj eq_42
            refine R.wpList_nil ?_
            exact ⟨rfl, S.sub (by exact ⟨rfl, rfl, rfl, rfl, rfl, rfl, rfl, trivial⟩)⟩
        clear S eq_42; rintro a _ ⟨rfl, S⟩
        refine R.wl_pure (l' := [(58, .bool q_42), (57, .bool q_42), (40, .bool false), (7, pB b_5), (6, pB b_1), (0, v0), (1, .int .i64 x1), (2, .int .i64 x2)]) S tys tys_ok 1 (by kernel_rfl) ?_
        clear S; intro a S
        obtain rfl := Option.some.inj eq_35
        refine R.wpList_nil ?_
        exact ⟨rfl, S.sub (by exact ⟨rfl, rfl, rfl, rfl, rfl, rfl, trivial⟩)⟩
      · rw [if_neg hc] at eq_35; rw [show q_28 = true from (by simpa using hc)] at S
        refine R.wl_pureK (l' := [(58, .bool true), (7, pB b_5), (6, pB b_1), (0, v0), (1, .int .i64 x1), (2, .int .i64 x2)]) S tys tys_ok 18 [58, 7, 6, 0, 1, 2] (by kernel_rfl) ?_
        clear S; intro a S
        obtain rfl := Option.some.inj eq_35
        refine R.wpList_nil ?_
        exact ⟨rfl, S.sub (by exact ⟨rfl, rfl, rfl, rfl, rfl, rfl, trivial⟩)⟩
    clear S eq_35; rintro a _ ⟨rfl, S⟩
    refine R.wpList_nil ?_
    refine then_n ?_
    refine R.wp_cond_split (S.eval (show ev _ _ = some (.bool q_35) from rfl)) ?_ ?_
    · intro hc
      rw [if_pos hc] at h
      refine R.wp_seq ?_
      refine R.wp_region_lit ?_
      refine R.w_go S rfl (op_store (t' := .bool) S rfl rfl ty4 rfl rfl rfl B_2 (by simp) Ln.whole (RepV.mkBool : RepV .bool w_34 (Kx K w.heap.size [some b_5, some b_1]) _ false) ?_)
      intro w_55 hw_56 B_
      replace R0 := R0.wrote hw_56 (by simp)
      replace B_6 := B_6.wrote hw_56 (by simp) (W.bne (p := 0) (q := 1) (by decide) rfl rfl)
      replace W := W.wrote hw_56 (by simp)
      replace B_2 : Bx .bool 4 w_55 (Kx K w.heap.size [some b_5, some b_1]) b_1 false := B_; clear B_
      refine R.w_go S rfl (op_store (t' := (.int .i64)) S rfl rfl ty33 rfl rfl rfl B_6 (by simp) Ln.whole ((RepV.mkInt (by decide)) : RepV (.int .i64) w_55 (Kx K w.heap.size [some b_5, some b_1]) _ 1) ?_)
      intro w_57 hw_58 B_
      replace R0 := R0.wrote hw_58 (by simp)
      replace B_2 := B_2.wrote hw_58 (by simp) (W.bne (p := 1) (q := 0) (by decide) rfl rfl)
      replace W := W.wrote hw_58 (by simp)
      replace B_6 : Bx (.int .i64) 33 w_57 (Kx K w.heap.size [some b_5, some b_1]) b_5 1 := B_; clear B_
      refine R.wpList_nil ?_
      refine then_n ?_
      replace S := S.sub (l' := [(7, pB b_5), (6, pB b_1)]) (by exact ⟨rfl, rfl, trivial⟩)
      refine R.wp_ret ?_
      refine then_r ?_
      refine R.leave0 S ?_ (by simp)
      clear S; intro a S
      obtain ⟨v_59, hr_60, R_61⟩ := res_cell (P := Try.prog) (T := 4) (t := .bool) (x := false) S (s := 6) rfl ty4 B_2.at_
      obtain ⟨v_62, hr_63, R_64⟩ := res_cell (P := Try.prog) (T := 33) (t := (.int .i64)) (x := 1) S (s := 7) rfl ty33 B_6.at_
      obtain rfl := Option.some.inj h
      exact b_res2 S rfl hr_60 hr_63 ⟨_, _, rfl, R_61.out, R_64.out, W.below⟩
    · intro hc
      rw [if_neg (Bool.eq_false_iff.1 hc)] at h
      refine R.wp_skip ?_
      refine then_n ?_
      replace S := S.sub (l' := [(7, pB b_5), (6, pB b_1), (0, v0), (1, .int .i64 x1), (2, .int .i64 x2)]) (by exact ⟨rfl, rfl, rfl, rfl, rfl, trivial⟩)
      refine R.wp_seq ?_
      refine R.wp_region_lit ?_
      refine R.wl_pure (l' := [(59, v0), (7, pB b_5), (6, pB b_1), (0, v0), (1, .int .i64 x1), (2, .int .i64 x2)]) S tys tys_ok 1 (by kernel_rfl) ?_
      clear S; intro a S
      refine R.w_go S rfl (op_len (K := _) S rfl ty24 rfl rfl rfl R0 ?_)
      clear S; intro a G_65 S
      obtain ⟨m_66, em_66, h⟩ := bindS h
      refine R.w_go S rfl (op_make (K := K) (e := gt1) (z0 := (0, 0, false, false, false, false, 0)) S W _ rfl ty24 un24 by24 z32 (fun w K => ⟨[.int .i64 0], [.int .u8 0, .bool false, .bool false, .bool false, .bool false, .int .i64 0], rfl, ⟨rfl, by decide⟩, ⟨[.int .u8 0], [.bool false, .bool false, .bool false, .bool false, .int .i64 0], rfl, ⟨rfl, by decide⟩, ⟨[.bool false], [.bool false, .bool false, .bool false, .int .i64 0], rfl, rfl, ⟨[.bool false], [.bool false, .bool false, .int .i64 0], rfl, rfl, ⟨[.bool false], [.bool false, .int .i64 0], rfl, rfl, ⟨[.bool false], [.int .i64 0], rfl, rfl, ⟨rfl, by decide⟩⟩⟩⟩⟩⟩⟩) rfl rfl rfl rfl em_66 ?_)
      clear S; intro a w_68 b_67 hb_69 O_70 S
      replace R0 := R0.box hb_69
      replace B_2 := B_2.box hb_69
      replace B_6 := B_6.box hb_69
      replace W := W.box hb_69
      replace O_70 : Ow gt1 32 w_68 w.heap.size (Kx K w.heap.size [some b_67, some b_5, some b_1]) (.slice (some ⟨b_67, 0, .none⟩) m_66.1 m_66.2) (List.replicate m_66.1 ((0, 0, false, false, false, false, 0) : Int × Int × Bool × Bool × Bool × Bool × Int)) (some m_66.2) := O_70
      refine R.wl_pureK (l' := [(9, (.slice (some ⟨b_67, 0, .none⟩) m_66.1 m_66.2)), (7, pB b_5), (6, pB b_1), (0, v0), (1, .int .i64 x1), (2, .int .i64 x2)]) S tys tys_ok 1 [9, 7, 6, 0, 1, 2] (by kernel_rfl) ?_
      clear S; intro a S
      refine R.wpList_nil ?_
      refine then_n ?_
      refine R.wp_seq ?_
      refine R.wp_region_lit ?_
      refine R.wl_pure (l' := [(63, v0), (62, (.slice (some ⟨b_67, 0, .none⟩) m_66.1 m_66.2)), (9, (.slice (some ⟨b_67, 0, .none⟩) m_66.1 m_66.2)), (7, pB b_5), (6, pB b_1), (0, v0), (1, .int .i64 x1), (2, .int .i64 x2)]) S tys tys_ok 2 (by kernel_rfl) ?_
      clear S; intro a S
      refine R.w_go S rfl (op_copy S (E := 32) rfl ty24 un24 rfl rfl rfl rfl O_70 0 rfl R0 ?_)
      clear S; intro a w_71 A_72 O_73 G_74 S
      replace R0 : RepV (.sl gt1) w_71 (Kx K w.heap.size [some b_67, some b_5, some b_1]) v0 x0 := R0.apd A_72 (i := 0) rfl
      replace B_2 : Bx .bool 4 w_71 (Kx K w.heap.size [some b_67, some b_5, some b_1]) b_1 false := B_2.apd W A_72 (i := 0) rfl (j := 2) rfl (by decide)
      replace B_6 : Bx (.int .i64) 33 w_71 (Kx K w.heap.size [some b_67, some b_5, some b_1]) b_5 0 := B_6.apd W A_72 (i := 0) rfl (j := 1) rfl (by decide)
      replace W : Wd w w_71 [some b_67, some b_5, some b_1] := W.apd A_72 (i := 0) rfl
      replace O_73 : Ow gt1 32 w_71 w.heap.size (Kx K w.heap.size [some b_67, some b_5, some b_1]) (.slice (some ⟨b_67, 0, .none⟩) m_66.1 m_66.2) (cpyI (List.replicate m_66.1 ((0, 0, false, false, false, false, 0) : Int × Int × Bool × Bool × Bool × Bool × Int)) x0.xs) (some m_66.2) := by obtain ⟨c_, r1_, r2_, r3_⟩ := O_73; exact ⟨c_, r1_, r2_, r3_⟩
      refine R.wpList_nil ?_
      refine then_n ?_
      replace S := S.sub (l' := [(9, (.slice (some ⟨b_67, 0, .none⟩) m_66.1 m_66.2)), (7, pB b_5), (6, pB b_1), (1, .int .i64 x1), (2, .int .i64 x2)]) (by exact ⟨rfl, rfl, rfl, rfl, rfl, trivial⟩)
      refine R.wp_seq ?_
      refine R.wp_region_lit ?_
      refine R.wl_pure (l' := [(71, .int .i64 x2), (70, .int .i64 x1), (69, (.slice (some ⟨b_67, 0, .none⟩) m_66.1 m_66.2)), (68, .int .i64 x1), (67, (.slice (some ⟨b_67, 0, .none⟩) m_66.1 m_66.2)), (66, .int .i64 x1), (65, (.slice (some ⟨b_67, 0, .none⟩) m_66.1 m_66.2)), (9, (.slice (some ⟨b_67, 0, .none⟩) m_66.1 m_66.2)), (7, pB b_5), (6, pB b_1), (1, .int .i64 x1), (2, .int .i64 x2)]) S tys tys_ok 7 (by kernel_rfl) ?_
      clear S; intro a S
      obtain ⟨y_75, ey_75, h⟩ := bindS h
      refine R.w_go S rfl (op_indexAddr_own S rfl ty24 rfl rfl rfl O_73 rfl ey_75 ?_)
      clear S; intro a g_76 H_78 R_77 S
      refine R.wl_pureK (l' := [(73, .pointer (some ((⟨g_76, x1.toNat * GT.sz gt1, .none⟩ : Addr).add (coff gf1 4)))), (71, .int .i64 x2), (70, .int .i64 x1), (69, (.slice (some ⟨b_67, 0, .none⟩) m_66.1 m_66.2)), (68, .int .i64 x1), (67, (.slice (some ⟨b_67, 0, .none⟩) m_66.1 m_66.2)), (9, (.slice (some ⟨b_67, 0, .none⟩) m_66.1 m_66.2)), (7, pB b_5), (6, pB b_1), (1, .int .i64 x1)]) S tys tys_ok 1 [73, 71, 70, 69, 68, 67, 9, 7, 6, 1] (by kernel_rfl) ?_
      clear S; intro a S
      refine R.w_go S rfl (op_store_own (t' := .bool) S rfl rfl ty4 rfl (addr_add _ _ _) rfl O_73 H_78 0 rfl (idx_some ey_75).2.1 (Ln.st (Ln.comp 4)) (RepV.mkBool : RepV .bool w_71 (Kx K w.heap.size [some b_67, some b_5, some b_1]) _ true) ?_)
      intro w_79 hw_80 hm_82 O_81
      replace B_2 := B_2.wrote hw_80 hm_82 (by have h_ := W.one (p := 0) (q := 2) (by decide) rfl rfl; exact fun e_ => h_ (by rw [e_]; exact H_78))
      replace B_6 := B_6.wrote hw_80 hm_82 (by have h_ := W.one (p := 0) (q := 1) (by decide) rfl rfl; exact fun e_ => h_ (by rw [e_]; exact H_78))
      replace W := W.wrote hw_80 hm_82
      replace O_81 : Ow gt1 32 w_79 w.heap.size (Kx K w.heap.size [some b_67, some b_5, some b_1]) (.slice (some ⟨b_67, 0, .none⟩) m_66.1 m_66.2) ((cpyI (List.replicate m_66.1 ((0, 0, false, false, false, false, 0) : Int × Int × Bool × Bool × Bool × Bool × Int)) x0.xs).set x1.toNat (y_75.1, y_75.2.1, y_75.2.2.1, y_75.2.2.2.1, true, y_75.2.2.2.2.2.1, y_75.2.2.2.2.2.2)) (some m_66.2) := O_81
      obtain ⟨y_83, ey_83, h⟩ := bindS h
      refine R.w_go S rfl (op_indexAddr_own S rfl ty24 rfl rfl rfl O_81 rfl ey_83 ?_)
      clear S; intro a g_84 H_86 R_85 S
      refine R.wl_pureK (l' := [(75, .pointer (some ((⟨g_84, x1.toNat * GT.sz gt1, .none⟩ : Addr).add (coff gf1 5)))), (71, .int .i64 x2), (70, .int .i64 x1), (69, (.slice (some ⟨b_67, 0, .none⟩) m_66.1 m_66.2)), (9, (.slice (some ⟨b_67, 0, .none⟩) m_66.1 m_66.2)), (7, pB b_5), (6, pB b_1), (1, .int .i64 x1)]) S tys tys_ok 1 [75, 71, 70, 69, 9, 7, 6, 1] (by kernel_rfl) ?_
      clear S; intro a S
      refine R.w_go S rfl (op_store_own (t' := .bool) S rfl rfl ty4 rfl (addr_add _ _ _) rfl O_81 H_86 0 rfl (idx_some ey_83).2.1 (Ln.st (Ln.comp 5)) (RepV.mkBool : RepV .bool w_79 (Kx K w.heap.size [some b_67, some b_5, some b_1]) _ false) ?_)
      intro w_87 hw_88 hm_90 O_89
      replace B_2 := B_2.wrote hw_88 hm_90 (by have h_ := W.one (p := 0) (q := 2) (by decide) rfl rfl; exact fun e_ => h_ (by rw [e_]; exact H_86))
      replace B_6 := B_6.wrote hw_88 hm_90 (by have h_ := W.one (p := 0) (q := 1) (by decide) rfl rfl; exact fun e_ => h_ (by rw [e_]; exact H_86))
      replace W := W.wrote hw_88 hm_90
      replace O_89 : Ow gt1 32 w_87 w.heap.size (Kx K w.heap.size [some b_67, some b_5, some b_1]) (.slice (some ⟨b_67, 0, .none⟩) m_66.1 m_66.2) (((cpyI (List.replicate m_66.1 ((0, 0, false, false, false, false, 0) : Int × Int × Bool × Bool × Bool × Bool × Int)) x0.xs).set x1.toNat (y_75.1, y_75.2.1, y_75.2.2.1, y_75.2.2.2.1, true, y_75.2.2.2.2.2.1, y_75.2.2.2.2.2.2)).set x1.toNat (y_83.1, y_83.2.1, y_83.2.2.1, y_83.2.2.2.1, y_83.2.2.2.2.1, false, y_83.2.2.2.2.2.2)) (some m_66.2) := O_89
      obtain ⟨y_91, ey_91, h⟩ := bindS h
      refine R.w_go S rfl (op_indexAddr_own S rfl ty24 rfl rfl rfl O_89 rfl ey_91 ?_)
      clear S; intro a g_92 H_94 R_93 S
      refine R.wl_pureK (l' := [(77, .pointer (some ((⟨g_92, x1.toNat * GT.sz gt1, .none⟩ : Addr).add (coff gf1 6)))), (71, .int .i64 x2), (9, (.slice (some ⟨b_67, 0, .none⟩) m_66.1 m_66.2)), (7, pB b_5), (6, pB b_1), (1, .int .i64 x1)]) S tys tys_ok 1 [77, 71, 9, 7, 6, 1] (by kernel_rfl) ?_
      clear S; intro a S
      refine R.w_go S rfl (op_store_own (t' := (.int .i64)) S rfl rfl ty3 rfl (addr_add _ _ _) rfl O_89 H_94 0 rfl (idx_some ey_91).2.1 (Ln.st (Ln.comp 6)) ((RepV.mkInt G2) : RepV (.int .i64) w_87 (Kx K w.heap.size [some b_67, some b_5, some b_1]) _ x2) ?_)
      intro w_95 hw_96 hm_98 O_97
      replace B_2 := B_2.wrote hw_96 hm_98 (by have h_ := W.one (p := 0) (q := 2) (by decide) rfl rfl; exact fun e_ => h_ (by rw [e_]; exact H_94))
      replace B_6 := B_6.wrote hw_96 hm_98 (by have h_ := W.one (p := 0) (q := 1) (by decide) rfl rfl; exact fun e_ => h_ (by rw [e_]; exact H_94))
      replace W := W.wrote hw_96 hm_98
      replace O_97 : Ow gt1 32 w_95 w.heap.size (Kx K w.heap.size [some b_67, some b_5, some b_1]) (.slice (some ⟨b_67, 0, .none⟩) m_66.1 m_66.2) ((((cpyI (List.replicate m_66.1 ((0, 0, false, false, false, false, 0) : Int × Int × Bool × Bool × Bool × Bool × Int)) x0.xs).set x1.toNat (y_75.1, y_75.2.1, y_75.2.2.1, y_75.2.2.2.1, true, y_75.2.2.2.2.2.1, y_75.2.2.2.2.2.2)).set x1.toNat (y_83.1, y_83.2.1, y_83.2.2.1, y_83.2.2.2.1, y_83.2.2.2.2.1, false, y_83.2.2.2.2.2.2)).set x1.toNat (y_91.1, y_91.2.1, y_91.2.2.1, y_91.2.2.2.1, y_91.2.2.2.2.1, y_91.2.2.2.2.2.1, x2)) (some m_66.2) := O_97
      refine R.wpList_nil ?_
      refine then_n ?_
      replace S := S.sub (l' := [(9, (.slice (some ⟨b_67, 0, .none⟩) m_66.1 m_66.2)), (7, pB b_5), (6, pB b_1), (1, .int .i64 x1)]) (by exact ⟨rfl, rfl, rfl, rfl, trivial⟩)
      refine R.wp_seq ?_
      refine R.wp_region_lit ?_
      refine R.wl_pure (l' := [(79, (.slice (some ⟨b_67, 0, .none⟩) m_66.1 m_66.2)), (9, (.slice (some ⟨b_67, 0, .none⟩) m_66.1 m_66.2)), (7, pB b_5), (6, pB b_1), (1, .int .i64 x1)]) S tys tys_ok 1 (by kernel_rfl) ?_
      clear S; intro a S
      have R_99 : RepV (.sl gt1) w_95 (Kx K w.heap.size [some b_5, some b_1]) (.slice (some ⟨b_67, 0, .none⟩) m_66.1 m_66.2) (⟨((((cpyI (List.replicate m_66.1 ((0, 0, false, false, false, false, 0) : Int × Int × Bool × Bool × Bool × Bool × Int)) x0.xs).set x1.toNat (y_75.1, y_75.2.1, y_75.2.2.1, y_75.2.2.2.1, true, y_75.2.2.2.2.2.1, y_75.2.2.2.2.2.2)).set x1.toNat (y_83.1, y_83.2.1, y_83.2.2.1, y_83.2.2.2.1, y_83.2.2.2.2.1, false, y_83.2.2.2.2.2.2)).set x1.toNat (y_91.1, y_91.2.1, y_91.2.2.1, y_91.2.2.2.1, y_91.2.2.2.2.1, y_91.2.2.2.2.2.1, x2)), some m_66.2⟩ : Sl (Int × Int × Bool × Bool × Bool × Bool × Int)) := O_97.pubAt W 0 rfl
      replace B_2 : Bx .bool 4 w_95 (Kx K w.heap.size [some b_5, some b_1]) b_1 false := B_2.lessAt 0
      replace B_6 : Bx (.int .i64) 33 w_95 (Kx K w.heap.size [some b_5, some b_1]) b_5 0 := B_6.lessAt 0
      replace W : Wd w w_95 [some b_5, some b_1] := W.lessAt 0
      obtain ⟨t_100, et_100, h⟩ := bindS h
      refine R.w_go S rfl (op_call (vs := [(.slice (some ⟨b_67, 0, .none⟩) m_66.1 m_66.2), .bool false]) S rfl cb27 rfl rfl rfl (c27 (Kx K w.heap.size [some b_5, some b_1]) n w_95 (⟨((((cpyI (List.replicate m_66.1 ((0, 0, false, false, false, false, 0) : Int × Int × Bool × Bool × Bool × Bool × Int)) x0.xs).set x1.toNat (y_75.1, y_75.2.1, y_75.2.2.1, y_75.2.2.2.1, true, y_75.2.2.2.2.2.1, y_75.2.2.2.2.2.2)).set x1.toNat (y_83.1, y_83.2.1, y_83.2.2.1, y_83.2.2.2.1, y_83.2.2.2.2.1, false, y_83.2.2.2.2.2.2)).set x1.toNat (y_91.1, y_91.2.1, y_91.2.2.1, y_91.2.2.2.1, y_91.2.2.2.2.1, y_91.2.2.2.2.2.1, x2)), some m_66.2⟩ : Sl (Int × Int × Bool × Bool × Bool × Bool × Int)) _ R_99 false et_100) ?_)
      rintro _ w_106 ⟨v_101, v_102, rfl, R_103, R_104, hb_105⟩; refine ⟨_, rfl, ?_⟩
      have hbhb_105 := hb_105.below
      replace R_103 := Ow.backW R_103 W
      replace R_104 := Ow.backW R_104 W
      clear S; intro a S
      replace R_99 := R_99.newW hb_105
      replace B_2 := B_2.newW hb_105
      replace B_6 := B_6.newW hb_105
      replace W : Wd w w_106 [v_101.ownBlock, v_102.ownBlock, some b_5, some b_1] := W.newW hb_105
      replace R_99 : RepV (.sl gt1) w_106 (Kx K w.heap.size [v_101.ownBlock, v_102.ownBlock, some b_5, some b_1]) (.slice (some ⟨b_67, 0, .none⟩) m_66.1 m_66.2) (⟨((((cpyI (List.replicate m_66.1 ((0, 0, false, false, false, false, 0) : Int × Int × Bool × Bool × Bool × Bool × Int)) x0.xs).set x1.toNat (y_75.1, y_75.2.1, y_75.2.2.1, y_75.2.2.2.1, true, y_75.2.2.2.2.2.1, y_75.2.2.2.2.2.2)).set x1.toNat (y_83.1, y_83.2.1, y_83.2.2.1, y_83.2.2.2.1, y_83.2.2.2.2.1, false, y_83.2.2.2.2.2.2)).set x1.toNat (y_91.1, y_91.2.1, y_91.2.2.1, y_91.2.2.2.1, y_91.2.2.2.2.1, y_91.2.2.2.2.2.1, x2)), some m_66.2⟩ : Sl (Int × Int × Bool × Bool × Bool × Bool × Int)) := R_99
      replace B_2 : Bx .bool 4 w_106 (Kx K w.heap.size [v_101.ownBlock, v_102.ownBlock, some b_5, some b_1]) b_1 false := B_2
      replace B_6 : Bx (.int .i64) 33 w_106 (Kx K w.heap.size [v_101.ownBlock, v_102.ownBlock, some b_5, some b_1]) b_5 0 := B_6
      refine R.wl_pureK (l' := [(82, v_102), (81, v_101), (9, (.slice (some ⟨b_67, 0, .none⟩) m_66.1 m_66.2)), (7, pB b_5), (6, pB b_1), (1, .int .i64 x1)]) S tys tys_ok 3 [82, 81, 9, 7, 6, 1] (by kernel_rfl) ?_
      clear S; intro a S
      refine R.w_go S rfl (op_alloc (K := K) (n := w.heap.size) (L := [v_101.ownBlock, v_102.ownBlock, some b_5, some b_1]) (t := .raw) (y := (.slice .none 0 0)) S rfl rfl rfl _ z53 (fun w K => ⟨rfl, _, _, _, rfl⟩) ?_)
      clear S; intro a w_109 b_107 hb_110 B_108 S
      replace R_99 := R_99.box hb_110
      replace B_2 := B_2.box hb_110
      replace B_6 := B_6.box hb_110
      replace R_103 := R_103.box hb_110
      replace R_104 := R_104.box hb_110
      replace W := W.box hb_110
      refine R.wl_pure (l' := [(10, v_101), (11, pB b_107), (82, v_102), (81, v_101), (9, (.slice (some ⟨b_67, 0, .none⟩) m_66.1 m_66.2)), (7, pB b_5), (6, pB b_1), (1, .int .i64 x1)]) S tys tys_ok 1 (by kernel_rfl) ?_
      clear S; intro a S
      refine R.w_go S rfl (op_store (t' := .raw) S rfl rfl tyr53 rfl rfl rfl B_108 (by simp) Ln.whole R_104.raw ?_)
      intro w_111 hw_112 B_
      replace R_99 := R_99.wrote hw_112 (by simp)
      replace B_2 := B_2.wrote hw_112 (by simp) (W.bne (p := 4) (q := 0) (by decide) rfl rfl)
      replace B_6 := B_6.wrote hw_112 (by simp) (W.bne (p := 3) (q := 0) (by decide) rfl rfl)
      replace R_103 := R_103.wrote hw_112 (by simp) (W.one (p := 1) (q := 0) (by decide) rfl rfl)
      replace R_104 := R_104.wrote hw_112 (by simp) (W.one (p := 2) (q := 0) (by decide) rfl rfl)
      replace W := W.wrote hw_112 (by simp)
      replace B_108 : Bx .raw 53 w_111 (Kx K w.heap.size [some b_107, v_101.ownBlock, v_102.ownBlock, some b_5, some b_1]) b_107 v_102 := B_; clear B_
      refine R.wpList_nil ?_
      refine then_n ?_
      replace S := S.sub (l' := [(11, pB b_107), (9, (.slice (some ⟨b_67, 0, .none⟩) m_66.1 m_66.2)), (7, pB b_5), (6, pB b_1), (1, .int .i64 x1)]) (by exact ⟨rfl, rfl, rfl, rfl, rfl, trivial⟩)
      refine R.wp_seq ?_
      refine R.wp_seq ?_
      refine R.wp_region_lit ?_
      refine R.wl_pure (l' := [(84, .int .i64 x1), (83, (.slice (some ⟨b_67, 0, .none⟩) m_66.1 m_66.2)), (11, pB b_107), (9, (.slice (some ⟨b_67, 0, .none⟩) m_66.1 m_66.2)), (7, pB b_5), (6, pB b_1), (1, .int .i64 x1)]) S tys tys_ok 2 (by kernel_rfl) ?_
      clear S; intro a S
      obtain ⟨t_113, et_113, h⟩ := bindS h
      refine R.w_go S rfl (op_call (vs := [(.slice (some ⟨b_67, 0, .none⟩) m_66.1 m_66.2), .int .i64 x1]) S rfl cb32 rfl rfl rfl (c32 (Kx K w.heap.size [some b_107, v_101.ownBlock, v_102.ownBlock, some b_5, some b_1]) n w_111 (⟨((((cpyI (List.replicate m_66.1 ((0, 0, false, false, false, false, 0) : Int × Int × Bool × Bool × Bool × Bool × Int)) x0.xs).set x1.toNat (y_75.1, y_75.2.1, y_75.2.2.1, y_75.2.2.2.1, true, y_75.2.2.2.2.2.1, y_75.2.2.2.2.2.2)).set x1.toNat (y_83.1, y_83.2.1, y_83.2.2.1, y_83.2.2.2.1, y_83.2.2.2.2.1, false, y_83.2.2.2.2.2.2)).set x1.toNat (y_91.1, y_91.2.1, y_91.2.2.1, y_91.2.2.2.1, y_91.2.2.2.2.1, y_91.2.2.2.2.2.1, x2)), some m_66.2⟩ : Sl (Int × Int × Bool × Bool × Bool × Bool × Int)) _ R_99 x1 G1 et_113) ?_)
      rintro _ w_116 ⟨p_118, b_120, rfl, Q_119, B_121, hb_117⟩; refine ⟨_, rfl, ?_⟩
      replace Q_119 := Pr.backO Q_119 W
      replace B_121 := Bx.backO B_121 W
      clear S; intro a S
      replace R_99 := R_99.box hb_117
      replace B_2 := B_2.box hb_117
      replace B_6 := B_6.box hb_117
      replace B_108 := B_108.box hb_117
      replace R_104 := R_104.box hb_117
      replace W := W.box hb_117
      refine R.wpList_nil ?_
      refine then_n ?_
      replace S := S.sub (l' := [(85, .func (.func 37) #[] #[.pointer (some p_118), pB b_120]), (11, pB b_107), (7, pB b_5), (6, pB b_1), (1, .int .i64 x1)]) (by exact ⟨rfl, rfl, rfl, rfl, rfl, trivial⟩)
      obtain ⟨y_126, ey_126, h⟩ := bindS h
      refine R.wp_cut_ (fun a_ w_ => ∃ D_122 l_123 : Nat, y_126.1 ≠ 1 ∧ (StD [markD D_122] 96 a_ [(11, pB b_107), (7, pB b_5), (6, pB b_1), (1, .int .i64 x1)] ∧ Wd w w_ [some b_120, some l_123, some D_122, some b_107, v_101.ownBlock, v_102.ownBlock, some b_5, some b_1] ∧ Bx .bool 4 w_ (Kx K w.heap.size [some b_120, some l_123, some D_122, some b_107, v_101.ownBlock, v_102.ownBlock, some b_5, some b_1]) b_1 false ∧ Bx (.int .i64) 33 w_ (Kx K w.heap.size [some b_120, some l_123, some D_122, some b_107, v_101.ownBlock, v_102.ownBlock, some b_5, some b_1]) b_5 0 ∧ Bx .raw 53 w_ (Kx K w.heap.size [some b_120, some l_123, some D_122, some b_107, v_101.ownBlock, v_102.ownBlock, some b_5, some b_1]) b_107 v_102 ∧ Ox (.deferred (some [])) w_ D_122 ∧ Ow .bool 4 w_ w.heap.size (Kx K w.heap.size [some b_120, some l_123, some D_122, some b_107, v_101.ownBlock, v_102.ownBlock, some b_5, some b_1]) v_102 t_100.2.xs t_100.2.cap)) ?_ ?_
      · refine R.wp_block ?_
        refine R.range S rfl cb37 ?_
        intro fn_ w_127 w_128 D_122 l_123 rec hrec hbD_122 hbl_123 oD_122 ol_123; have S0 := S
        replace Q_119 := Q_119.box hbD_122
        replace B_2 := B_2.box hbD_122
        replace B_6 := B_6.box hbD_122
        replace B_108 := B_108.box hbD_122
        replace B_121 := B_121.box hbD_122
        replace R_104 := R_104.box hbD_122
        replace W := W.box hbD_122
        replace Q_119 := Q_119.box hbl_123
        replace B_2 := B_2.box hbl_123
        replace B_6 := B_6.box hbl_123
        replace B_108 := B_108.box hbl_123
        replace B_121 := B_121.box hbl_123
        replace oD_122 := oD_122.box hbl_123
        replace R_104 := R_104.box hbl_123
        replace W := W.box hbl_123
        replace Q_119 : Pr (.sl gt1) w_128 (Kx K w.heap.size [some b_120, some l_123, some D_122, some b_107, v_101.ownBlock, v_102.ownBlock, some b_5, some b_1]) p_118 t_113.1 := Q_119.mv 2 rfl
        replace B_2 : Bx .bool 4 w_128 (Kx K w.heap.size [some b_120, some l_123, some D_122, some b_107, v_101.ownBlock, v_102.ownBlock, some b_5, some b_1]) b_1 false := B_2.mv 2 rfl
        replace B_6 : Bx (.int .i64) 33 w_128 (Kx K w.heap.size [some b_120, some l_123, some D_122, some b_107, v_101.ownBlock, v_102.ownBlock, some b_5, some b_1]) b_5 0 := B_6.mv 2 rfl
        replace B_108 : Bx .raw 53 w_128 (Kx K w.heap.size [some b_120, some l_123, some D_122, some b_107, v_101.ownBlock, v_102.ownBlock, some b_5, some b_1]) b_107 v_102 := B_108.mv 2 rfl
        replace B_121 : Bx (.int .i64) 3 w_128 (Kx K w.heap.size [some b_120, some l_123, some D_122, some b_107, v_101.ownBlock, v_102.ownBlock, some b_5, some b_1]) b_120 t_113.2 := B_121.mv 2 rfl
        replace R_104 : Ow .bool 4 w_128 w.heap.size (Kx K w.heap.size [some b_120, some l_123, some D_122, some b_107, v_101.ownBlock, v_102.ownBlock, some b_5, some b_1]) v_102 t_100.2.xs t_100.2.cap := R_104.mv 2 rfl
        replace W : Wd w w_128 [some b_120, some l_123, some D_122, some b_107, v_101.ownBlock, v_102.ownBlock, some b_5, some b_1] := W.mv 2 rfl
        have hz_ : w.heap.size ≤ w_128.heap.size := W.below.size; have ltD_122 := oD_122.lt; have ltl_123 := ol_123.lt
        refine (c37 K n w w_128 [some l_123, some D_122, some b_107, v_101.ownBlock, v_102.ownBlock, some b_5, some b_1] b_120 p_118 _ Q_119 _ B_121 (Nat × (Unit)) (rnd (p22_r1 n t_100)) _ l_123 (fun (b_ : Nat × (Unit)) (LO_ : List (Option Nat)) (w_ : World) => ∃ (k_ : Nat) (s_ : Unit) , b_ = (k_, s_) ∧ k_ ≤ 1 ∧ LO_ = [some l_123, some D_122, some b_107, v_101.ownBlock, v_102.ownBlock, some b_5, some b_1] ∧ Wd w w_ [some b_120, some l_123, some D_122, some b_107, v_101.ownBlock, v_102.ownBlock, some b_5, some b_1] ∧ Bx .bool 4 w_ (Kx K w.heap.size [some b_120, some l_123, some D_122, some b_107, v_101.ownBlock, v_102.ownBlock, some b_5, some b_1]) b_1 false ∧ Bx (.int .i64) 33 w_ (Kx K w.heap.size [some b_120, some l_123, some D_122, some b_107, v_101.ownBlock, v_102.ownBlock, some b_5, some b_1]) b_5 0 ∧ Bx .raw 53 w_ (Kx K w.heap.size [some b_120, some l_123, some D_122, some b_107, v_101.ownBlock, v_102.ownBlock, some b_5, some b_1]) b_107 v_102 ∧ Ox (.deferred (some [])) w_ D_122 ∧ Ow .bool 4 w_ w.heap.size (Kx K w.heap.size [some b_120, some l_123, some D_122, some b_107, v_101.ownBlock, v_102.ownBlock, some b_5, some b_1]) v_102 t_100.2.xs t_100.2.cap ∧ Ox (rk rec [.ret] k_) w_ l_123) W ⟨?_, ⟨0, (), rfl, by decide, rfl, W, B_2, B_6, B_108, oD_122, R_104, ol_123⟩, Nat.le_refl _⟩ ?_ ey_126).mono ?_
        · rintro _ LO_ A_ B_ ⟨k_, s_, rfl, hk_, rfl, W, B_2, B_6, B_108, oD_122, R_104, ol_123⟩ hab_; exact ⟨k_, s_, rfl, hk_, rfl, W.ab hab_ (by simp) hz_, B_2.ab hab_ (by simp) (fun h_ => (W.bne (p := 7) (q := 0) (by decide) rfl rfl) (Option.some.inj (List.mem_singleton.1 h_))), B_6.ab hab_ (by simp) (fun h_ => (W.bne (p := 6) (q := 0) (by decide) rfl rfl) (Option.some.inj (List.mem_singleton.1 h_))), B_108.ab hab_ (by simp) (fun h_ => (W.bne (p := 3) (q := 0) (by decide) rfl rfl) (Option.some.inj (List.mem_singleton.1 h_))), oD_122.ab hab_ ltD_122 (fun h_ => (W.bne (p := 2) (q := 0) (by decide) rfl rfl) (Option.some.inj (List.mem_singleton.1 h_))), R_104.ab hab_ (by simp) ((W.neq (p := 5) (q := 0) (by decide) rfl rfl).imp id (fun h_ k_ => h_ (List.mem_singleton.1 k_))), ol_123.ab hab_ ltl_123 (fun h_ => (W.bne (p := 1) (q := 0) (by decide) rfl rfl) (Option.some.inj (List.mem_singleton.1 h_)))⟩
        · intro b_ LO_ A_ x_ WA_ G_129 r_ hf_ hJ_
          obtain ⟨s0_, r0_, e1_, hb_, rfl⟩ := rnd_some hf_
          obtain ⟨k_, s_, e2_, hk_, rfl, W, B_2, B_6, B_108, oD_122, R_104, ol_123⟩ := hJ_
          obtain ⟨q1_, q2_⟩ := Prod.mk.inj (e2_.symm.trans e1_); subst q1_; subst q2_; clear WA_ hf_
          replace ol_123 : Ox (rec .ready none) A_ l_123 := ol_123
          obtain ⟨q_, ob_120⟩ := W.obj (b := b_120) (by simp); have ob0_ := ob_120
          refine yieldAt_of (ps := [86]) (vs := [.int .i64 x_]) hrec S0 ol_123 rfl (by kernel_rfl) ?_; intro a S
          unfold p22_r1 at hb_; try dsimp only at hb_
          have RD := Rnd.start A_ [some b_120, some l_123, some D_122, some b_107, v_101.ownBlock, v_102.ownBlock, some b_5, some b_1]
          replace S : St 96 a [(86, .int .i64 x_), (11, pB b_107), (7, pB b_5), (6, pB b_1), (1, .int .i64 x1)] := S.sub (by exact ⟨rfl, rfl, rfl, rfl, rfl, trivial⟩)
          refine R.wp_region_lit ?_
          refine R.wl_pure (l' := [(12, .int .i64 x_), (86, .int .i64 x_), (11, pB b_107), (7, pB b_5), (6, pB b_1), (1, .int .i64 x1)]) S tys tys_ok 1 (by kernel_rfl) ?_
          clear S; intro a S
          refine R.wpList_nil ?_
          refine then_n ?_
          refine R.begin hrec ol_123 ?_; intro w_130 hN_ ol_123
          replace B_2 := B_2.nc hN_
          replace B_6 := B_6.nc hN_
          replace B_108 := B_108.nc hN_
          replace oD_122 := oD_122.nc hN_ (W.bne (p := 2) (q := 1) (by decide) rfl rfl)
          replace ob_120 := ob_120.nc hN_ (W.bne (p := 0) (q := 1) (by decide) rfl rfl)
          replace R_104 := R_104.nc hN_
          replace RD := RD.nc hN_ (by simp)
          replace W := W.nc hN_ (by simp)
          refine R.wp_block ?_
          refine R.wp_seq ?_
          refine R.wp_region_lit ?_
          refine R.w_go S rfl (op_load (t := .raw) (x := v_102) S rfl tyr53 rfl rfl rfl B_108.at_ ?_)
          clear S; intro a v_131 R_132 S
          have q_ := (RepV.rawEq R_132).symm; clear R_132; subst q_
          refine R.wl_pureK (l' := [(88, .int .i64 x_), (87, v_102), (7, pB b_5), (6, pB b_1)]) S tys tys_ok 1 [88, 87, 7, 6] (by kernel_rfl) ?_
          clear S; intro a S
          obtain ⟨y_133, ey_133, hb_⟩ := bindS hb_
          refine R.w_go S rfl (op_indexAddr_own S rfl ty53 rfl rfl rfl R_104 rfl ey_133 ?_)
          clear S; intro a g_134 H_136 R_135 S
          refine R.w_go S rfl (op_load (t := .bool) (x := y_133) S rfl ty4 rfl rfl rfl R_135 ?_)
          clear S; intro a v_137 R_138 S
          obtain rfl := RepV.bool R_138
          refine R.wpList_nil ?_
          refine then_n ?_
          replace S := S.sub (l' := [(90, .bool y_133), (7, pB b_5), (6, pB b_1)]) (by exact ⟨rfl, rfl, rfl, trivial⟩)
          refine R.wp_cond_split (S.eval (show ev _ _ = some (.bool y_133) from rfl)) ?_ ?_
          · intro hc
            rw [if_pos hc] at hb_
            refine R.wp_seq ?_
            refine R.wp_region_lit ?_
            refine R.w_go S rfl (op_store (t' := .bool) S rfl rfl ty4 rfl rfl rfl B_2 (by simp) Ln.whole (RepV.mkBool : RepV .bool w_130 (Kx K w.heap.size [some b_120, some l_123, some D_122, some b_107, v_101.ownBlock, v_102.ownBlock, some b_5, some b_1]) _ false) ?_)
            intro w_139 hw_140 B_
            replace B_6 := B_6.wrote hw_140 (by simp) (W.bne (p := 6) (q := 7) (by decide) rfl rfl)
            replace B_108 := B_108.wrote hw_140 (by simp) (W.bne (p := 3) (q := 7) (by decide) rfl rfl)
            replace oD_122 := oD_122.wrote hw_140 (by simp) (W.bne (p := 2) (q := 7) (by decide) rfl rfl)
            replace ob_120 := ob_120.wrote hw_140 (by simp) (W.bne (p := 0) (q := 7) (by decide) rfl rfl)
            replace ol_123 := ol_123.wrote hw_140 (by simp) (W.bne (p := 1) (q := 7) (by decide) rfl rfl)
            replace R_104 := R_104.wrote hw_140 (by simp) (W.one (p := 5) (q := 7) (by decide) rfl rfl)
            replace RD := RD.wrote hw_140 (by simp)
            replace W := W.wrote hw_140 (by simp)
            replace B_2 : Bx .bool 4 w_139 (Kx K w.heap.size [some b_120, some l_123, some D_122, some b_107, v_101.ownBlock, v_102.ownBlock, some b_5, some b_1]) b_1 false := B_; clear B_
            refine R.w_go S rfl (op_store (t' := (.int .i64)) S rfl rfl ty33 rfl rfl rfl B_6 (by simp) Ln.whole ((RepV.mkInt (by decide)) : RepV (.int .i64) w_139 (Kx K w.heap.size [some b_120, some l_123, some D_122, some b_107, v_101.ownBlock, v_102.ownBlock, some b_5, some b_1]) _ 0) ?_)
            intro w_141 hw_142 B_
            replace B_2 := B_2.wrote hw_142 (by simp) (W.bne (p := 7) (q := 6) (by decide) rfl rfl)
            replace B_108 := B_108.wrote hw_142 (by simp) (W.bne (p := 3) (q := 6) (by decide) rfl rfl)
            replace oD_122 := oD_122.wrote hw_142 (by simp) (W.bne (p := 2) (q := 6) (by decide) rfl rfl)
            replace ob_120 := ob_120.wrote hw_142 (by simp) (W.bne (p := 0) (q := 6) (by decide) rfl rfl)
            replace ol_123 := ol_123.wrote hw_142 (by simp) (W.bne (p := 1) (q := 6) (by decide) rfl rfl)
            replace R_104 := R_104.wrote hw_142 (by simp) (W.one (p := 5) (q := 6) (by decide) rfl rfl)
            replace RD := RD.wrote hw_142 (by simp)
            replace W := W.wrote hw_142 (by simp)
            replace B_6 : Bx (.int .i64) 33 w_141 (Kx K w.heap.size [some b_120, some l_123, some D_122, some b_107, v_101.ownBlock, v_102.ownBlock, some b_5, some b_1]) b_5 0 := B_; clear B_
            refine R.wpList_nil ?_
            refine then_n ?_
            replace S := S.sub (l' := [(7, pB b_5), (6, pB b_1)]) (by exact ⟨rfl, rfl, trivial⟩)
            refine R.wp_ret ?_
            refine blk_r ?_
            obtain rfl := Option.some.inj hb_
            refine R.end_r hrec ol_123 ?_; intro w_143 hN_ ol_123
            replace B_2 := B_2.nc hN_
            replace B_6 := B_6.nc hN_
            replace B_108 := B_108.nc hN_
            replace oD_122 := oD_122.nc hN_ (W.bne (p := 2) (q := 1) (by decide) rfl rfl)
            replace ob_120 := ob_120.nc hN_ (W.bne (p := 0) (q := 1) (by decide) rfl rfl)
            replace R_104 := R_104.nc hN_
            replace RD := RD.nc hN_ (by simp)
            replace W := W.nc hN_ (by simp)
            exact ⟨_, rfl, ⟨1, _, rfl, by decide, rfl, W, B_2, B_6, B_108, oD_122, R_104, ol_123⟩, (RD.yst W).less1 ob0_ ob_120⟩
          · intro hc
            rw [if_neg (Bool.eq_false_iff.1 hc)] at hb_
            refine R.wp_skip ?_
            refine blk_n ?_
            obtain rfl := Option.some.inj hb_
            refine R.end_n hrec ol_123 ?_; intro w_144 hN_ ol_123
            replace B_2 := B_2.nc hN_
            replace B_6 := B_6.nc hN_
            replace B_108 := B_108.nc hN_
            replace oD_122 := oD_122.nc hN_ (W.bne (p := 2) (q := 1) (by decide) rfl rfl)
            replace ob_120 := ob_120.nc hN_ (W.bne (p := 0) (q := 1) (by decide) rfl rfl)
            replace R_104 := R_104.nc hN_
            replace RD := RD.nc hN_ (by simp)
            replace W := W.nc hN_ (by simp)
            exact ⟨_, rfl, ⟨0, _, rfl, by decide, rfl, W, B_2, B_6, B_108, oD_122, R_104, ol_123⟩, (RD.yst W).less1 ob0_ ob_120⟩
        · rintro _ w_145 ⟨hv_, LO_, hJ_⟩; refine ⟨hv_, ?_⟩; clear S W
          obtain ⟨k_, s_, e2_, hk_, rfl, W, B_2, B_6, B_108, oD_122, R_104, ol_123⟩ := hJ_; subst e2_; have S := S0.mark (D := D_122)
          rcases k_ with _ | _ | k_
          ·
            replace ol_123 : Ox (rec .ready none) w_145 l_123 := ol_123
            refine RP.done hrec ol_123 ?_; intro w_146 hN_
            replace B_2 := B_2.nc hN_
            replace B_6 := B_6.nc hN_
            replace B_108 := B_108.nc hN_
            replace oD_122 := oD_122.nc hN_ (W.bne (p := 2) (q := 1) (by decide) rfl rfl)
            replace R_104 := R_104.nc hN_
            replace W := W.nc hN_ (by simp)
            replace S : StD [markD D_122] 96 _ [(11, pB b_107), (7, pB b_5), (6, pB b_1), (1, .int .i64 x1)] := S.sub (by exact ⟨rfl, rfl, rfl, rfl, trivial⟩)
            refine blk_n ?_
            refine then_n ?_
            exact ⟨D_122, l_123, by simp, ⟨S.sub (by exact ⟨rfl, rfl, rfl, rfl, trivial⟩), W, B_2, B_6, B_108, oD_122, R_104⟩⟩
          ·
            replace ol_123 : Ox (rec .done (some .ret)) w_145 l_123 := ol_123
            refine RP.jump hrec ol_123 ?_; intro w_147 hN_
            replace B_2 := B_2.nc hN_
            replace B_6 := B_6.nc hN_
            replace B_108 := B_108.nc hN_
            replace oD_122 := oD_122.nc hN_ (W.bne (p := 2) (q := 1) (by decide) rfl rfl)
            replace R_104 := R_104.nc hN_
            replace W := W.nc hN_ (by simp)
            replace S : StD [markD D_122] 96 _ [(11, pB b_107), (7, pB b_5), (6, pB b_1), (1, .int .i64 x1)] := S.sub (by exact ⟨rfl, rfl, rfl, rfl, trivial⟩)
            rw [if_pos rfl] at h; try dsimp only at h
            refine R.wp_ret ?_
            refine blk_r ?_
            refine then_r ?_
            refine then_r ?_
            refine R.leave1 S oD_122 ?_ (by simp)
            clear S; intro a wL hN_ S
            replace B_2 := B_2.nc hN_
            replace B_6 := B_6.nc hN_
            replace B_108 := B_108.nc hN_
            replace R_104 := R_104.nc hN_
            replace W := W.nc hN_ (by simp)
            obtain ⟨v_148, hr_149, R_150⟩ := res_cell (P := Try.prog) (T := 4) (t := .bool) (x := false) S (s := 6) rfl ty4 B_2.at_
            obtain ⟨v_151, hr_152, R_153⟩ := res_cell (P := Try.prog) (T := 33) (t := (.int .i64)) (x := 0) S (s := 7) rfl ty33 B_6.at_
            obtain rfl := Option.some.inj h
            exact b_res2 S rfl hr_149 hr_152 ⟨_, _, rfl, R_150.out, R_153.out, W.below⟩
          · exact absurd hk_ (by omega)
      clear S W; rintro a w_154 ⟨D_122, l_123, hc_, S, W, B_2, B_6, B_108, oD_122, R_104⟩
      rw [if_neg hc_] at h
      refine then_n ?_
      refine R.wp_seq ?_
      refine R.wp_region_lit ?_
      refine R.w_go S rfl (op_load (t := .raw) (x := v_102) S rfl tyr53 rfl rfl rfl B_108.at_ ?_)
      clear S; intro a v_155 R_156 S
      have q_ := (RepV.rawEq R_156).symm; clear R_156; subst q_
      refine R.wl_pure (l' := [(92, .int .i64 x1), (91, v_102), (11, pB b_107), (7, pB b_5), (6, pB b_1), (1, .int .i64 x1)]) S tys tys_ok 1 (by kernel_rfl) ?_
      clear S; intro a S
      obtain ⟨y_157, ey_157, h⟩ := bindS h
      refine R.w_go S rfl (op_indexAddr_own S rfl ty53 rfl rfl rfl R_104 rfl ey_157 ?_)
      clear S; intro a g_158 H_160 R_159 S
      refine R.w_go S rfl (op_load (t := .bool) (x := y_157) S rfl ty4 rfl rfl rfl R_159 ?_)
      clear S; intro a v_161 R_162 S
      obtain rfl := RepV.bool R_162
      refine R.wl_pureK (l' := [(95, .bool (!y_157)), (7, pB b_5), (6, pB b_1)]) S tys tys_ok 1 [95, 7, 6] (by kernel_rfl) ?_
      clear S; intro a S
      refine R.w_go S rfl (op_store (t' := .bool) S rfl rfl ty4 rfl rfl rfl B_2 (by simp) Ln.whole (RepV.mkBool : RepV .bool w_154 (Kx K w.heap.size [some b_120, some l_123, some D_122, some b_107, v_101.ownBlock, v_102.ownBlock, some b_5, some b_1]) _ (!y_157)) ?_)
      intro w_163 hw_164 B_
      replace B_6 := B_6.wrote hw_164 (by simp) (W.bne (p := 6) (q := 7) (by decide) rfl rfl)
      replace B_108 := B_108.wrote hw_164 (by simp) (W.bne (p := 3) (q := 7) (by decide) rfl rfl)
      replace oD_122 := oD_122.wrote hw_164 (by simp) (W.bne (p := 2) (q := 7) (by decide) rfl rfl)
      replace R_104 := R_104.wrote hw_164 (by simp) (W.one (p := 5) (q := 7) (by decide) rfl rfl)
      replace W := W.wrote hw_164 (by simp)
      replace B_2 : Bx .bool 4 w_163 (Kx K w.heap.size [some b_120, some l_123, some D_122, some b_107, v_101.ownBlock, v_102.ownBlock, some b_5, some b_1]) b_1 (!y_157) := B_; clear B_
      refine R.w_go S rfl (op_store (t' := (.int .i64)) S rfl rfl ty33 rfl rfl rfl B_6 (by simp) Ln.whole ((RepV.mkInt (by decide)) : RepV (.int .i64) w_163 (Kx K w.heap.size [some b_120, some l_123, some D_122, some b_107, v_101.ownBlock, v_102.ownBlock, some b_5, some b_1]) _ 0) ?_)
      intro w_165 hw_166 B_
      replace B_2 := B_2.wrote hw_166 (by simp) (W.bne (p := 7) (q := 6) (by decide) rfl rfl)
      replace B_108 := B_108.wrote hw_166 (by simp) (W.bne (p := 3) (q := 6) (by decide) rfl rfl)
      replace oD_122 := oD_122.wrote hw_166 (by simp) (W.bne (p := 2) (q := 6) (by decide) rfl rfl)
      replace R_104 := R_104.wrote hw_166 (by simp) (W.one (p := 5) (q := 6) (by decide) rfl rfl)
      replace W := W.wrote hw_166 (by simp)
      replace B_6 : Bx (.int .i64) 33 w_165 (Kx K w.heap.size [some b_120, some l_123, some D_122, some b_107, v_101.ownBlock, v_102.ownBlock, some b_5, some b_1]) b_5 0 := B_; clear B_
      refine R.wpList_nil ?_
      refine then_n ?_
      replace S := S.sub (l' := [(7, pB b_5), (6, pB b_1)]) (by exact ⟨rfl, rfl, trivial⟩)
      refine R.wp_ret ?_
      refine R.leave1 S oD_122 ?_ (by simp)
      clear S; intro a wL hN_ S
      replace B_2 := B_2.nc hN_
      replace B_6 := B_6.nc hN_
      replace B_108 := B_108.nc hN_
      replace R_104 := R_104.nc hN_
      replace W := W.nc hN_ (by simp)
      obtain ⟨v_167, hr_168, R_169⟩ := res_cell (P := Try.prog) (T := 4) (t := .bool) (x := (!y_157)) S (s := 6) rfl ty4 B_2.at_
      obtain ⟨v_170, hr_171, R_172⟩ := res_cell (P := Try.prog) (T := 33) (t := (.int .i64)) (x := 0) S (s := 7) rfl ty33 B_6.at_
      obtain rfl := Option.some.inj h
      exact b_res2 S rfl hr_168 hr_171 ⟨_, _, rfl, R_169.out, R_172.out, W.below⟩
theorem cb22 : callB Try.prog 22 = true := by kernel_rfl
def p24_l1 (n : Nat) (x0 : Sl (Int × Int × Bool × Bool × Bool × Bool × Int)) (x1 : Int) : Nat → (Int) → Option ((Unit) ⊕ ((Int) × (Int)))
  | 0, _ => .none
  | m + 1, c_1 => if (decide (c_1 ≥ 0)) then ((p22 n x0 x1 c_1).bind fun t_10 => if (t_10.2 != 0) then (some (.inr (0, t_10.2))) else if t_10.1 then (some (.inr (c_1, 0))) else (ckI .i64 (c_1 - 1)).bind fun x_17 => p24_l1 n x0 x1 m x_17) else some (.inl ())
def p24 (n : Nat) (x0 : Sl (Int × Int × Bool × Bool × Bool × Bool × Int)) (x1 : Int) : Option ((Int) × (Int)) :=
  (p24_l1 n x0 x1 n 500).bind fun (y_5 : (Unit) ⊕ ((Int) × (Int))) =>
  lrK y_5 some fun (s_6 : Unit) =>
  some ((-1), 0)
set_option maxHeartbeats 4000000 in
set_option maxRecDepth 100000 in
/-- plugboard/powers.Free -/
theorem c24 (K : Nat → Prop) (n : Nat) (w : World) (x0 : Sl (Int × Int × Bool × Bool × Bool × Bool × Int)) (v0 : Value) (R0 : RepV (.sl gt1) w K v0 x0) (x1 : Int) (G1 : InR .i64 x1) {r : (Int) × (Int)} (h : p24 n x0 x1 = some r) :
    Calls Try.prog 24 #[v0, .int .i64 x1] w (Ret2 (.int .i64) (.int .i64) w (Kx K w.heap.size []) r) := by
  refine enter (args := [v0, .int .i64 x1]) Try.func24 rfl 25 rfl rfl fun a S => ?_
  have W := Wd.start w
  replace R0 := R0.arg
  unfold p24 at h
  replace S : St 25 a [(0, v0), (1, .int .i64 x1)] := S
  refine wp_seq ?_
  refine wp_region_lit ?_
  refine wl_pure (l' := [(5, .int .i64 0), (4, .int .i64 0), (0, v0), (1, .int .i64 x1)]) S tys tys_ok 2 (by kernel_rfl) ?_
  clear S; intro a S
  refine wpList_nil ?_
  refine then_n ?_
  replace S := S.sub (l' := [(0, v0), (1, .int .i64 x1)]) (by exact ⟨rfl, rfl, trivial⟩)
  refine wp_seq ?_
  refine wp_seq ?_
  refine wp_region_lit ?_
  refine wl_pure (l' := [(6, .int .i64 500), (0, v0), (1, .int .i64 x1)]) S tys tys_ok 1 (by kernel_rfl) ?_
  clear S; intro a S
  refine wpList_nil ?_
  refine then_n ?_
  obtain ⟨y_5, ey_5, h⟩ := bindS h
  refine wp_cut_ (fun a_ w_ => ∃ s_6 : Unit, y_5 = .inl s_6 ∧ (St 25 a_ [] ∧ Wd w w_ [])) ?_ ?_
  · refine wp_block ?_
    refine wp_loop_n (fun m_ a_ w_ => ∃ (c_1 : Int) , St 25 a_ [(6, .int .i64 c_1), (0, v0), (1, .int .i64 x1)] ∧ Wd w w_ [] ∧ InR .i64 c_1 ∧ RepV (.sl gt1) w_ (Kx K w.heap.size []) v0 x0 ∧ p24_l1 n x0 x1 m_ c_1 = some y_5) n ?_ ?_
    · skip
      exact ⟨500, ⟨S.sub (by exact ⟨rfl, rfl, rfl, trivial⟩), W, (by decide), R0, ey_5⟩⟩
    · clear S W; rintro m_7 a w_9 ⟨c_1, S, W, G_2, R0, hl_8⟩
      cases m_7 with
      | zero => exact absurd hl_8 (by simp [p24_l1])
      | succ m_7 =>
        refine ⟨m_7, rfl, ?_⟩
        rw [p24_l1] at hl_8
        refine wp_seq ?_
        refine wp_seq ?_
        refine wp_region_lit ?_
        refine wl_pure (l' := [(10, .bool (decide (c_1 ≥ 0))), (9, .int .i64 c_1), (6, .int .i64 c_1), (0, v0), (1, .int .i64 x1)]) S tys tys_ok 2 (by kernel_rfl) ?_
        clear S; intro a S
        refine wpList_nil ?_
        refine then_n ?_
        replace S := S.sub (l' := [(10, .bool (decide (c_1 ≥ 0))), (6, .int .i64 c_1), (0, v0), (1, .int .i64 x1)]) (by exact ⟨rfl, rfl, rfl, rfl, trivial⟩)
        refine wp_cond_split (S.eval (show ev _ _ = some (.bool (decide (c_1 ≥ 0))) from rfl)) ?_ ?_
        · intro hc
          rw [if_pos hc] at hl_8
          refine wp_skip ?_
          refine then_n ?_
          replace S := S.sub (l' := [(6, .int .i64 c_1), (0, v0), (1, .int .i64 x1)]) (by exact ⟨rfl, rfl, rfl, trivial⟩)
          refine wp_seq ?_
          refine wp_block ?_
          refine wp_seq ?_
          refine wp_region_lit ?_
          refine wl_pure (l' := [(16, .int .i64 c_1), (15, .int .i64 x1), (14, v0), (6, .int .i64 c_1), (0, v0), (1, .int .i64 x1)]) S tys tys_ok 3 (by kernel_rfl) ?_
          clear S; intro a S
          obtain ⟨t_10, et_10, hl_8⟩ := bindS hl_8
          refine w_go S rfl (op_call (vs := [v0, .int .i64 x1, .int .i64 c_1]) S rfl cb22 rfl rfl rfl (c22 (Kx K w.heap.size []) n w_9 x0 _ R0 x1 G1 c_1 G_2 et_10) ?_)
          rintro _ w_16 ⟨v_11, v_12, rfl, R_13, R_14, hb_15⟩; refine ⟨_, rfl, ?_⟩
          replace R_13 := RepV.back R_13 W
          replace R_14 := RepV.back R_14 W
          clear S; intro a S
          replace R0 := R0.step hb_15
          replace W := W.step hb_15
          obtain rfl := RepV.bool R_13
          obtain ⟨rfl, GR_14⟩ := RepV.int R_14
          refine wl_pureK (l' := [(8, .int .i64 t_10.2), (7, .bool t_10.1), (6, .int .i64 c_1), (0, v0), (1, .int .i64 x1)]) S tys tys_ok 5 [8, 7, 6, 0, 1] (by kernel_rfl) ?_
          clear S; intro a S
          refine wpList_nil ?_
          refine then_n ?_
          refine wp_seq ?_
          refine wp_seq ?_
          refine wp_region_lit ?_
          refine wl_pure (l' := [(21, .bool (t_10.2 != 0)), (20, .int .i64 t_10.2), (8, .int .i64 t_10.2), (7, .bool t_10.1), (6, .int .i64 c_1), (0, v0), (1, .int .i64 x1)]) S tys tys_ok 2 (by kernel_rfl) ?_
          clear S; intro a S
          refine wpList_nil ?_
          refine then_n ?_
          replace S := S.sub (l' := [(21, .bool (t_10.2 != 0)), (8, .int .i64 t_10.2), (7, .bool t_10.1), (6, .int .i64 c_1), (0, v0), (1, .int .i64 x1)]) (by exact ⟨rfl, rfl, rfl, rfl, rfl, rfl, trivial⟩)
          refine wp_cond_split (S.eval (show ev _ _ = some (.bool (t_10.2 != 0)) from rfl)) ?_ ?_
          · intro hc
            rw [if_pos hc] at hl_8
            refine wp_seq ?_
            refine wp_region_lit ?_
            refine wl_pureK (l' := [(5, .int .i64 t_10.2), (4, .int .i64 0)]) S tys tys_ok 3 [5, 4] (by kernel_rfl) ?_
            clear S; intro a S
            refine wpList_nil ?_
            refine then_n ?_
            refine wp_ret ?_
            refine then_r ?_
            refine blk_r ?_
            refine then_r ?_
            refine then_r ?_
            refine blk_r ?_
            refine then_r ?_
            refine then_r ?_
            obtain rfl := Option.some.inj hl_8
            obtain rfl := lr_inr h
            exact b_ret2 S rfl rfl rfl ⟨_, _, rfl, (RepV.mkInt (by decide)), (RepV.mkInt GR_14), W.below⟩
          · intro hc
            rw [if_neg (Bool.eq_false_iff.1 hc)] at hl_8
            refine wp_skip ?_
            refine then_n ?_
            replace S := S.sub (l' := [(7, .bool t_10.1), (6, .int .i64 c_1), (0, v0), (1, .int .i64 x1)]) (by exact ⟨rfl, rfl, rfl, rfl, trivial⟩)
            refine wp_seq ?_
            refine wp_region_lit ?_
            refine wl_pure (l' := [(23, .bool t_10.1), (7, .bool t_10.1), (6, .int .i64 c_1), (0, v0), (1, .int .i64 x1)]) S tys tys_ok 1 (by kernel_rfl) ?_
            clear S; intro a S
            refine wpList_nil ?_
            refine then_n ?_
            replace S := S.sub (l' := [(23, .bool t_10.1), (6, .int .i64 c_1), (0, v0), (1, .int .i64 x1)]) (by exact ⟨rfl, rfl, rfl, rfl, trivial⟩)
            refine wp_cond_split (S.eval (show ev _ _ = some (.bool t_10.1) from rfl)) ?_ ?_
            · intro hc
              rw [if_pos hc] at hl_8
              refine wp_seq ?_
              refine wp_region_lit ?_
              refine wl_pureK (l' := [(5, .int .i64 0), (4, .int .i64 c_1)]) S tys tys_ok 3 [5, 4] (by kernel_rfl) ?_
              clear S; intro a S
              refine wpList_nil ?_
              refine then_n ?_
              refine wp_ret ?_
              refine blk_r ?_
              refine then_r ?_
              refine then_r ?_
              refine blk_r ?_
              refine then_r ?_
              refine then_r ?_
              obtain rfl := Option.some.inj hl_8
              obtain rfl := lr_inr h
              exact b_ret2 S rfl rfl rfl ⟨_, _, rfl, (RepV.mkInt G_2), (RepV.mkInt (by decide)), W.below⟩
            · intro hc
              rw [if_neg (Bool.eq_false_iff.1 hc)] at hl_8
              refine wp_skip ?_
              refine blk_n ?_
              refine then_n ?_
              replace S := S.sub (l' := [(6, .int .i64 c_1), (0, v0), (1, .int .i64 x1)]) (by exact ⟨rfl, rfl, rfl, trivial⟩)
              refine wp_region_lit ?_
              refine wl_pure (l' := [(11, .int .i64 c_1), (6, .int .i64 c_1), (0, v0), (1, .int .i64 x1)]) S tys tys_ok 1 (by kernel_rfl) ?_
              clear S; intro a S
              obtain ⟨x_17, ex_17, hl_8⟩ := bindS hl_8
              refine w_go S rfl (op_arith S .i64 (c_1 - 1) rfl (.inr (.inl rfl)) rfl rfl rfl rfl ex_17 ?_)
              clear S; intro a S
              refine wl_pure (l' := [(6, .int .i64 x_17), (12, .int .i64 x_17), (11, .int .i64 c_1), (6, .int .i64 c_1), (0, v0), (1, .int .i64 x1)]) S tys tys_ok 1 (by kernel_rfl) ?_
              clear S; intro a S
              refine wpList_nil ?_
              refine then_n ?_
              exact ⟨x_17, ⟨S.sub (by exact ⟨rfl, rfl, rfl, trivial⟩), W, (ckI_some ex_17).2.1, R0, hl_8⟩⟩
        · intro hc
          rw [if_neg (Bool.eq_false_iff.1 hc)] at hl_8
          refine wp_exit ?_
          refine then_x ?_
          refine then_x ?_
          refine blk_hit ?_
          refine then_n ?_
          obtain rfl := Option.some.inj hl_8
          exact ⟨_, rfl, ⟨S.sub trivial, W⟩⟩
  clear S W; rintro a w_18 ⟨s_6, rfl, S, W⟩
  replace h := lr_inl h; try dsimp only at h
  refine then_n ?_
  refine wp_seq ?_
  refine wp_region_lit ?_
  refine wl_pure (l' := [(5, .int .i64 0), (4, .int .i64 (-1))]) S tys tys_ok 2 (by kernel_rfl) ?_
  clear S; intro a S
  refine wpList_nil ?_
  refine then_n ?_
  refine wp_ret ?_
  obtain rfl := Option.some.inj h
  exact b_ret2 S rfl rfl rfl ⟨_, _, rfl, (RepV.mkInt (by decide)), (RepV.mkInt (by decide)), W.below⟩
theorem cb24 : callB Try.prog 24 = true := by kernel_rfl
def p19 (n : Nat)  : Option ((Bool)) :=
  (p14 n (⟨([((-1), 1, true, false, true, false, 100), (0, 1, false, false, true, false, 100), (0, 2, false, false, true, false, 150)] : List (Int × Int × Bool × Bool × Bool × Bool × Int)), some 3⟩ : Sl (Int × Int × Bool × Bool × Bool × Bool × Int))).bind fun t_11 =>
  (p15 n (⟨([((-1), 1, true, false, true, false, 100), (0, 1, false, false, true, false, 100), (0, 2, false, false, true, false, 150)] : List (Int × Int × Bool × Bool × Bool × Bool × Int)), some 3⟩ : Sl (Int × Int × Bool × Bool × Bool × Bool × Int))).bind fun t_18 =>
  (p16 n (⟨([((-1), 1, true, false, true, false, 100), (0, 1, false, false, true, false, 100), (0, 2, false, false, true, false, 150)] : List (Int × Int × Bool × Bool × Bool × Bool × Int)), some 3⟩ : Sl (Int × Int × Bool × Bool × Bool × Bool × Int))).bind fun t_25 =>
  (p20 n (⟨([((-1), 1, true, false, true, false, 100), (0, 1, false, false, true, false, 100), (0, 2, false, false, true, false, 150)] : List (Int × Int × Bool × Bool × Bool × Bool × Int)), some 3⟩ : Sl (Int × Int × Bool × Bool × Bool × Bool × Int))).bind fun t_32 =>
  (p22 n (⟨([((-1), 1, true, false, true, false, 100), (0, 1, false, false, true, false, 100), (0, 2, false, false, true, false, 150)] : List (Int × Int × Bool × Bool × Bool × Bool × Int)), some 3⟩ : Sl (Int × Int × Bool × Bool × Bool × Bool × Int)) 1 100).bind fun t_39 =>
  (p24 n (⟨([((-1), 1, true, false, true, false, 100), (0, 1, false, false, true, false, 100), (0, 2, false, false, true, false, 150)] : List (Int × Int × Bool × Bool × Bool × Bool × Int)), some 3⟩ : Sl (Int × Int × Bool × Bool × Bool × Bool × Int)) 2).bind fun t_46 =>
  (if (t_11.2 != 0) = false then some (t_18.2 != 0) else some true).bind fun q_53 =>
  (if q_53 = false then some (t_25.2 != 0) else some true).bind fun q_54 =>
  (if q_54 = false then some (t_32.2 != 0) else some true).bind fun q_55 =>
  (if q_55 = false then some (t_39.2 != 0) else some true).bind fun q_56 =>
  (if q_56 = false then some (t_46.2 != 0) else some true).bind fun q_57 =>
  (if q_57 = false then (p18 n (⟨t_11.1.xs, t_11.1.cap⟩ : Sl (Int)) (⟨[350, 100, 150], some 3⟩ : Sl (Int))).bind fun t_63 => some (!t_63) else some true).bind fun q_58 =>
  (if q_58 = false then (p18 n (⟨t_18.1.xs, t_18.1.cap⟩ : Sl (Int)) (⟨[500, 100, 100], some 3⟩ : Sl (Int))).bind fun t_74 => some (!t_74) else some true).bind fun q_69 =>
  (if q_69 = false then (p18 n t_25.1 (⟨[2], some 1⟩ : Sl (Int))).bind fun t_85 => some (!t_85) else some true).bind fun q_80 =>
  (if q_80 = false then (p18 n t_32.1 (⟨[2], some 1⟩ : Sl (Int))).bind fun t_96 => some (!t_96) else some true).bind fun q_91 =>
  (if q_91 = false then some (!t_39.1) else some true).bind fun q_102 =>
  (if q_102 = false then some (t_46.1 != 100) else some true).bind fun q_103 =>
  if q_103 then (some false) else (idx ([((-1), 1, true, false, true, false, 100), (0, 1, false, false, true, false, 100), (0, 2, false, false, true, false, 150)] : List (Int × Int × Bool × Bool × Bool × Bool × Int)) 0).bind fun y_104 => (p14 n (⟨(([((-1), 1, true, false, true, false, 100), (0, 1, false, false, true, false, 100), (0, 2, false, false, true, false, 150)] : List (Int × Int × Bool × Bool × Bool × Bool × Int)).set (0 : Int).toNat (y_104.1, y_104.2.1, y_104.2.2.1, y_104.2.2.2.1, y_104.2.2.2.2.1, y_104.2.2.2.2.2.1, 500)), some 3⟩ : Sl (Int × Int × Bool × Bool × Bool × Bool × Int))).bind fun t_112 => (p16 n (⟨(([((-1), 1, true, false, true, false, 100), (0, 1, false, false, true, false, 100), (0, 2, false, false, true, false, 150)] : List (Int × Int × Bool × Bool × Bool × Bool × Int)).set (0 : Int).toNat (y_104.1, y_104.2.1, y_104.2.2.1, y_104.2.2.2.1, y_104.2.2.2.2.1, y_104.2.2.2.2.2.1, 500)), some 3⟩ : Sl (Int × Int × Bool × Bool × Bool × Bool × Int))).bind fun t_119 => (p20 n (⟨(([((-1), 1, true, false, true, false, 100), (0, 1, false, false, true, false, 100), (0, 2, false, false, true, false, 150)] : List (Int × Int × Bool × Bool × Bool × Bool × Int)).set (0 : Int).toNat (y_104.1, y_104.2.1, y_104.2.2.1, y_104.2.2.2.1, y_104.2.2.2.2.1, y_104.2.2.2.2.2.1, 500)), some 3⟩ : Sl (Int × Int × Bool × Bool × Bool × Bool × Int))).bind fun t_126 => (p18 n (⟨t_112.1.xs, t_112.1.cap⟩ : Sl (Int)) (⟨[750, 100, 150], some 3⟩ : Sl (Int))).bind fun t_137 => (if t_137 = true then (p18 n t_119.1 (⟨[0, 2], some 2⟩ : Sl (Int))).bind fun t_147 => some t_147 else some false).bind fun q_142 => (if q_142 = true then (p18 n t_126.1 (⟨[0, 1, 2], some 3⟩ : Sl (Int))).bind fun t_158 => some t_158 else some false).bind fun q_153 => some q_153
set_option maxHeartbeats 4000000 in
set_option maxRecDepth 100000 in
/-- plugboard/plugboardlaw19.lives -/
theorem c19 (K : Nat → Prop) (n : Nat) (w : World)  {r : (Bool)} (h : p19 n  = some r) :
    Calls Try.prog 19 #[] w (Ret1 .bool w (Kx K w.heap.size []) r) := by
  refine enter (args := []) Try.func19 rfl 133 rfl rfl fun a S => ?_
  have W := Wd.start w
  unfold p19 at h
  replace S : St 133 a [] := S
  refine wp_seq ?_
  refine wp_region_lit ?_
  refine wl_pure (l' := [(0, .bool false)]) S tys tys_ok 1 (by kernel_rfl) ?_
  clear S; intro a S
  refine wpList_nil ?_
  refine then_n ?_
  replace S := S.sub (l' := []) trivial
  refine wp_seq ?_
  refine wp_region_lit ?_
  refine w_go S rfl (op_build (K := (Kx K w.heap.size [])) (f := gf1) (z0 := (0, 0, false, false, false, false, 0)) (x := ((-1), 1, true, false, true, false, 100)) (vs := [.int .i64 (-1), .int .u8 1, .bool true, .bool true, .int .i64 100]) S _ rfl ty32 z32 (fun w K => ⟨[.int .i64 0], [.int .u8 0, .bool false, .bool false, .bool false, .bool false, .int .i64 0], rfl, ⟨rfl, by decide⟩, ⟨[.int .u8 0], [.bool false, .bool false, .bool false, .bool false, .int .i64 0], rfl, ⟨rfl, by decide⟩, ⟨[.bool false], [.bool false, .bool false, .bool false, .int .i64 0], rfl, rfl, ⟨[.bool false], [.bool false, .bool false, .int .i64 0], rfl, rfl, ⟨[.bool false], [.bool false, .int .i64 0], rfl, rfl, ⟨[.bool false], [.int .i64 0], rfl, rfl, ⟨rfl, by decide⟩⟩⟩⟩⟩⟩⟩) rfl rfl rfl [(0, .int .i64 (-1)), (1, .int .u8 1), (2, .bool true), (4, .bool true), (6, .int .i64 100)] rfl ⟨_, (RepV.mkInt (by decide)), rfl, rfl, ⟨_, (RepV.mkInt (by decide)), rfl, rfl, ⟨_, RepV.mkBool, rfl, rfl, ⟨_, RepV.mkBool, rfl, rfl, ⟨_, (RepV.mkInt (by decide)), rfl, rfl, rfl⟩⟩⟩⟩⟩ ?_)
  clear S; intro a v_1 R_2 S
  refine w_go S rfl (op_build (K := (Kx K w.heap.size [])) (f := gf1) (z0 := (0, 0, false, false, false, false, 0)) (x := (0, 1, false, false, true, false, 100)) (vs := [.int .i64 0, .int .u8 1, .bool true, .int .i64 100]) S _ rfl ty32 z32 (fun w K => ⟨[.int .i64 0], [.int .u8 0, .bool false, .bool false, .bool false, .bool false, .int .i64 0], rfl, ⟨rfl, by decide⟩, ⟨[.int .u8 0], [.bool false, .bool false, .bool false, .bool false, .int .i64 0], rfl, ⟨rfl, by decide⟩, ⟨[.bool false], [.bool false, .bool false, .bool false, .int .i64 0], rfl, rfl, ⟨[.bool false], [.bool false, .bool false, .int .i64 0], rfl, rfl, ⟨[.bool false], [.bool false, .int .i64 0], rfl, rfl, ⟨[.bool false], [.int .i64 0], rfl, rfl, ⟨rfl, by decide⟩⟩⟩⟩⟩⟩⟩) rfl rfl rfl [(0, .int .i64 0), (1, .int .u8 1), (4, .bool true), (6, .int .i64 100)] rfl ⟨_, (RepV.mkInt (by decide)), rfl, rfl, ⟨_, (RepV.mkInt (by decide)), rfl, rfl, ⟨_, RepV.mkBool, rfl, rfl, ⟨_, (RepV.mkInt (by decide)), rfl, rfl, rfl⟩⟩⟩⟩ ?_)
  clear S; intro a v_3 R_4 S
  refine w_go S rfl (op_build (K := (Kx K w.heap.size [])) (f := gf1) (z0 := (0, 0, false, false, false, false, 0)) (x := (0, 2, false, false, true, false, 150)) (vs := [.int .i64 0, .int .u8 2, .bool true, .int .i64 150]) S _ rfl ty32 z32 (fun w K => ⟨[.int .i64 0], [.int .u8 0, .bool false, .bool false, .bool false, .bool false, .int .i64 0], rfl, ⟨rfl, by decide⟩, ⟨[.int .u8 0], [.bool false, .bool false, .bool false, .bool false, .int .i64 0], rfl, ⟨rfl, by decide⟩, ⟨[.bool false], [.bool false, .bool false, .bool false, .int .i64 0], rfl, rfl, ⟨[.bool false], [.bool false, .bool false, .int .i64 0], rfl, rfl, ⟨[.bool false], [.bool false, .int .i64 0], rfl, rfl, ⟨[.bool false], [.int .i64 0], rfl, rfl, ⟨rfl, by decide⟩⟩⟩⟩⟩⟩⟩) rfl rfl rfl [(0, .int .i64 0), (1, .int .u8 2), (4, .bool true), (6, .int .i64 150)] rfl ⟨_, (RepV.mkInt (by decide)), rfl, rfl, ⟨_, (RepV.mkInt (by decide)), rfl, rfl, ⟨_, RepV.mkBool, rfl, rfl, ⟨_, (RepV.mkInt (by decide)), rfl, rfl, rfl⟩⟩⟩⟩ ?_)
  clear S; intro a v_5 R_6 S
  refine w_go S rfl (op_rowN (K := K) (e := gt1) (E0 := 32) (vs := [v_1, v_3, v_5]) (xs := [((-1), 1, true, false, true, false, 100), (0, 1, false, false, true, false, 100), (0, 2, false, false, true, false, 150)]) S W rfl ty24 un24 rfl rfl (by kernel_rfl) rfl rfl rfl rfl rfl ⟨R_2, R_4, R_6, trivial⟩ ?_)
  clear S; intro a w_8 b_7 hb_9 O_10 S
  replace R_2 := R_2.box hb_9
  replace R_4 := R_4.box hb_9
  replace R_6 := R_6.box hb_9
  replace W := W.box hb_9
  replace O_10 : Ow gt1 32 w_8 w.heap.size (Kx K w.heap.size [some b_7]) (.slice (some ⟨b_7, 0, .none⟩) 3 3) ([((-1), 1, true, false, true, false, 100), (0, 1, false, false, true, false, 100), (0, 2, false, false, true, false, 150)] : List (Int × Int × Bool × Bool × Bool × Bool × Int)) (some 3) := O_10
  refine wl_pureK (l' := [(1, (.slice (some ⟨b_7, 0, .none⟩) 3 3))]) S tys tys_ok 1 [1] (by kernel_rfl) ?_
  clear S; intro a S
  refine wpList_nil ?_
  refine then_n ?_
  refine wp_seq ?_
  refine wp_region_lit ?_
  refine wl_pure (l' := [(19, (.slice (some ⟨b_7, 0, .none⟩) 3 3)), (1, (.slice (some ⟨b_7, 0, .none⟩) 3 3))]) S tys tys_ok 1 (by kernel_rfl) ?_
  clear S; intro a S
  obtain ⟨t_11, et_11, h⟩ := bindS h
  refine w_go S rfl (op_call (vs := [(.slice (some ⟨b_7, 0, .none⟩) 3 3)]) S rfl cb14 rfl rfl rfl (c14 (Kx K w.heap.size []) n w_8 (⟨([((-1), 1, true, false, true, false, 100), (0, 1, false, false, true, false, 100), (0, 2, false, false, true, false, 150)] : List (Int × Int × Bool × Bool × Bool × Bool × Int)), some 3⟩ : Sl (Int × Int × Bool × Bool × Bool × Bool × Int)) _ (O_10.pubAt W 0 rfl) et_11) ?_)
  rintro _ w_17 ⟨v_12, v_13, rfl, R_14, R_15, hb_16⟩; refine ⟨_, rfl, ?_⟩
  have NO_ := newO_of R_14 (Nat.le_refl _) hb_16
  replace R_14 := Ow.backO R_14 (W.lessAt 0)
  replace R_15 := RepV.backO R_15 (W.lessAt 0)
  clear S; intro a S
  replace O_10 := O_10.newO NO_
  replace W := W.newO NO_
  clear NO_
  obtain ⟨rfl, GR_15⟩ := RepV.int R_15
  refine wl_pureK (l' := [(3, .int .i64 t_11.2), (2, v_12), (1, (.slice (some ⟨b_7, 0, .none⟩) 3 3))]) S tys tys_ok 5 [3, 2, 1] (by kernel_rfl) ?_
  clear S; intro a S
  refine wpList_nil ?_
  refine then_n ?_
  refine wp_seq ?_
  refine wp_region_lit ?_
  refine wl_pure (l' := [(24, (.slice (some ⟨b_7, 0, .none⟩) 3 3)), (3, .int .i64 t_11.2), (2, v_12), (1, (.slice (some ⟨b_7, 0, .none⟩) 3 3))]) S tys tys_ok 1 (by kernel_rfl) ?_
  clear S; intro a S
  obtain ⟨t_18, et_18, h⟩ := bindS h
  refine w_go S rfl (op_call (vs := [(.slice (some ⟨b_7, 0, .none⟩) 3 3)]) S rfl cb15 rfl rfl rfl (c15 (Kx K w.heap.size [v_12.ownBlock]) n w_17 (⟨([((-1), 1, true, false, true, false, 100), (0, 1, false, false, true, false, 100), (0, 2, false, false, true, false, 150)] : List (Int × Int × Bool × Bool × Bool × Bool × Int)), some 3⟩ : Sl (Int × Int × Bool × Bool × Bool × Bool × Int)) _ (O_10.pubAt W 1 rfl) et_18) ?_)
  rintro _ w_24 ⟨v_19, v_20, rfl, R_21, R_22, hb_23⟩; refine ⟨_, rfl, ?_⟩
  have NO_ := newO_of R_21 (Nat.le_refl _) hb_23
  replace R_21 := Ow.backO R_21 (W.lessAt 1)
  replace R_22 := RepV.backO R_22 (W.lessAt 1)
  clear S; intro a S
  replace O_10 := O_10.newO NO_
  replace R_14 := R_14.newO NO_
  replace W := W.newO NO_
  clear NO_
  obtain ⟨rfl, GR_22⟩ := RepV.int R_22
  refine wl_pureK (l' := [(5, .int .i64 t_18.2), (4, v_19), (3, .int .i64 t_11.2), (2, v_12), (1, (.slice (some ⟨b_7, 0, .none⟩) 3 3))]) S tys tys_ok 5 [5, 4, 3, 2, 1] (by kernel_rfl) ?_
  clear S; intro a S
  refine wpList_nil ?_
  refine then_n ?_
  refine wp_seq ?_
  refine wp_region_lit ?_
  refine wl_pure (l' := [(29, (.slice (some ⟨b_7, 0, .none⟩) 3 3)), (5, .int .i64 t_18.2), (4, v_19), (3, .int .i64 t_11.2), (2, v_12), (1, (.slice (some ⟨b_7, 0, .none⟩) 3 3))]) S tys tys_ok 1 (by kernel_rfl) ?_
  clear S; intro a S
  obtain ⟨t_25, et_25, h⟩ := bindS h
  refine w_go S rfl (op_call (vs := [(.slice (some ⟨b_7, 0, .none⟩) 3 3)]) S rfl cb16 rfl rfl rfl (c16 (Kx K w.heap.size [v_19.ownBlock, v_12.ownBlock]) n w_24 (⟨([((-1), 1, true, false, true, false, 100), (0, 1, false, false, true, false, 100), (0, 2, false, false, true, false, 150)] : List (Int × Int × Bool × Bool × Bool × Bool × Int)), some 3⟩ : Sl (Int × Int × Bool × Bool × Bool × Bool × Int)) _ (O_10.pubAt W 2 rfl) et_25) ?_)
  rintro _ w_31 ⟨v_26, v_27, rfl, R_28, R_29, hb_30⟩; refine ⟨_, rfl, ?_⟩
  replace R_28 := RepV.back R_28 (W.lessAt 2)
  replace R_29 := RepV.back R_29 (W.lessAt 2)
  clear S; intro a S
  replace O_10 := O_10.step hb_30
  replace R_14 := R_14.step hb_30
  replace R_21 := R_21.step hb_30
  replace W := W.step hb_30
  obtain ⟨rfl, GR_29⟩ := RepV.int R_29
  refine wl_pureK (l' := [(7, .int .i64 t_25.2), (6, v_26), (5, .int .i64 t_18.2), (4, v_19), (3, .int .i64 t_11.2), (2, v_12), (1, (.slice (some ⟨b_7, 0, .none⟩) 3 3))]) S tys tys_ok 5 [7, 6, 5, 4, 3, 2, 1] (by kernel_rfl) ?_
  clear S; intro a S
  refine wpList_nil ?_
  refine then_n ?_
  refine wp_seq ?_
  refine wp_region_lit ?_
  refine wl_pure (l' := [(34, (.slice (some ⟨b_7, 0, .none⟩) 3 3)), (7, .int .i64 t_25.2), (6, v_26), (5, .int .i64 t_18.2), (4, v_19), (3, .int .i64 t_11.2), (2, v_12), (1, (.slice (some ⟨b_7, 0, .none⟩) 3 3))]) S tys tys_ok 1 (by kernel_rfl) ?_
  clear S; intro a S
  obtain ⟨t_32, et_32, h⟩ := bindS h
  refine w_go S rfl (op_call (vs := [(.slice (some ⟨b_7, 0, .none⟩) 3 3)]) S rfl cb20 rfl rfl rfl (c20 (Kx K w.heap.size [v_19.ownBlock, v_12.ownBlock]) n w_31 (⟨([((-1), 1, true, false, true, false, 100), (0, 1, false, false, true, false, 100), (0, 2, false, false, true, false, 150)] : List (Int × Int × Bool × Bool × Bool × Bool × Int)), some 3⟩ : Sl (Int × Int × Bool × Bool × Bool × Bool × Int)) _ (O_10.pubAt W 2 rfl) et_32) ?_)
  rintro _ w_38 ⟨v_33, v_34, rfl, R_35, R_36, hb_37⟩; refine ⟨_, rfl, ?_⟩
  replace R_35 := RepV.back R_35 (W.lessAt 2)
  replace R_36 := RepV.back R_36 (W.lessAt 2)
  clear S; intro a S
  replace R_28 := R_28.step hb_37
  replace O_10 := O_10.step hb_37
  replace R_14 := R_14.step hb_37
  replace R_21 := R_21.step hb_37
  replace W := W.step hb_37
  obtain ⟨rfl, GR_36⟩ := RepV.int R_36
  refine wl_pureK (l' := [(9, .int .i64 t_32.2), (8, v_33), (7, .int .i64 t_25.2), (6, v_26), (5, .int .i64 t_18.2), (4, v_19), (3, .int .i64 t_11.2), (2, v_12), (1, (.slice (some ⟨b_7, 0, .none⟩) 3 3))]) S tys tys_ok 5 [9, 8, 7, 6, 5, 4, 3, 2, 1] (by kernel_rfl) ?_
  clear S; intro a S
  refine wpList_nil ?_
  refine then_n ?_
  refine wp_seq ?_
  refine wp_region_lit ?_
  refine wl_pure (l' := [(39, (.slice (some ⟨b_7, 0, .none⟩) 3 3)), (9, .int .i64 t_32.2), (8, v_33), (7, .int .i64 t_25.2), (6, v_26), (5, .int .i64 t_18.2), (4, v_19), (3, .int .i64 t_11.2), (2, v_12), (1, (.slice (some ⟨b_7, 0, .none⟩) 3 3))]) S tys tys_ok 1 (by kernel_rfl) ?_
  clear S; intro a S
  obtain ⟨t_39, et_39, h⟩ := bindS h
  refine w_go S rfl (op_call (vs := [(.slice (some ⟨b_7, 0, .none⟩) 3 3), .int .i64 1, .int .i64 100]) S rfl cb22 rfl rfl rfl (c22 (Kx K w.heap.size []) n w_38 (⟨([((-1), 1, true, false, true, false, 100), (0, 1, false, false, true, false, 100), (0, 2, false, false, true, false, 150)] : List (Int × Int × Bool × Bool × Bool × Bool × Int)), some 3⟩ : Sl (Int × Int × Bool × Bool × Bool × Bool × Int)) _ (Ow.read O_10) 1 (by decide) 100 (by decide) et_39) ?_)
  rintro _ w_45 ⟨v_40, v_41, rfl, R_42, R_43, hb_44⟩; refine ⟨_, rfl, ?_⟩
  clear S; intro a S
  replace R_28 := R_28.step hb_44
  replace R_35 := R_35.step hb_44
  replace O_10 := O_10.step hb_44
  replace R_14 := R_14.step hb_44
  replace R_21 := R_21.step hb_44
  replace W := W.step hb_44
  obtain rfl := RepV.bool R_42
  obtain ⟨rfl, GR_43⟩ := RepV.int R_43
  refine wl_pureK (l' := [(11, .int .i64 t_39.2), (10, .bool t_39.1), (9, .int .i64 t_32.2), (8, v_33), (7, .int .i64 t_25.2), (6, v_26), (5, .int .i64 t_18.2), (4, v_19), (3, .int .i64 t_11.2), (2, v_12), (1, (.slice (some ⟨b_7, 0, .none⟩) 3 3))]) S tys tys_ok 5 [11, 10, 9, 8, 7, 6, 5, 4, 3, 2, 1] (by kernel_rfl) ?_
  clear S; intro a S
  refine wpList_nil ?_
  refine then_n ?_
  refine wp_seq ?_
  refine wp_region_lit ?_
  refine wl_pure (l' := [(44, (.slice (some ⟨b_7, 0, .none⟩) 3 3)), (11, .int .i64 t_39.2), (10, .bool t_39.1), (9, .int .i64 t_32.2), (8, v_33), (7, .int .i64 t_25.2), (6, v_26), (5, .int .i64 t_18.2), (4, v_19), (3, .int .i64 t_11.2), (2, v_12), (1, (.slice (some ⟨b_7, 0, .none⟩) 3 3))]) S tys tys_ok 1 (by kernel_rfl) ?_
  clear S; intro a S
  obtain ⟨t_46, et_46, h⟩ := bindS h
  refine w_go S rfl (op_call (vs := [(.slice (some ⟨b_7, 0, .none⟩) 3 3), .int .i64 2]) S rfl cb24 rfl rfl rfl (c24 (Kx K w.heap.size []) n w_45 (⟨([((-1), 1, true, false, true, false, 100), (0, 1, false, false, true, false, 100), (0, 2, false, false, true, false, 150)] : List (Int × Int × Bool × Bool × Bool × Bool × Int)), some 3⟩ : Sl (Int × Int × Bool × Bool × Bool × Bool × Int)) _ (Ow.read O_10) 2 (by decide) et_46) ?_)
  rintro _ w_52 ⟨v_47, v_48, rfl, R_49, R_50, hb_51⟩; refine ⟨_, rfl, ?_⟩
  clear S; intro a S
  replace R_28 := R_28.step hb_51
  replace R_35 := R_35.step hb_51
  replace O_10 := O_10.step hb_51
  replace R_14 := R_14.step hb_51
  replace R_21 := R_21.step hb_51
  replace W := W.step hb_51
  obtain ⟨rfl, GR_49⟩ := RepV.int R_49
  obtain ⟨rfl, GR_50⟩ := RepV.int R_50
  refine wl_pureK (l' := [(13, .int .i64 t_46.2), (12, .int .i64 t_46.1), (11, .int .i64 t_39.2), (10, .bool t_39.1), (9, .int .i64 t_32.2), (8, v_33), (7, .int .i64 t_25.2), (6, v_26), (5, .int .i64 t_18.2), (4, v_19), (3, .int .i64 t_11.2), (2, v_12), (1, (.slice (some ⟨b_7, 0, .none⟩) 3 3))]) S tys tys_ok 5 [13, 12, 11, 10, 9, 8, 7, 6, 5, 4, 3, 2, 1] (by kernel_rfl) ?_
  clear S; intro a S
  refine wpList_nil ?_
  refine then_n ?_
  refine wp_seq ?_
  refine wp_seq ?_
  refine wp_region_lit ?_
  refine wl_pureK (l' := [(50, .bool (t_11.2 != 0)), (13, .int .i64 t_46.2), (12, .int .i64 t_46.1), (11, .int .i64 t_39.2), (10, .bool t_39.1), (9, .int .i64 t_32.2), (8, v_33), (7, .int .i64 t_25.2), (6, v_26), (5, .int .i64 t_18.2), (4, v_19), (2, v_12), (1, (.slice (some ⟨b_7, 0, .none⟩) 3 3))]) S tys tys_ok 3 [50, 13, 12, 11, 10, 9, 8, 7, 6, 5, 4, 2, 1] (by kernel_rfl) ?_
  clear S; intro a S
  obtain ⟨q_53, eq_53, h⟩ := bindS h
  refine seg 3 (fun a_ w_ => w_52 = w_ ∧ St 133 a_ [(53, .bool q_53), (13, .int .i64 t_46.2), (12, .int .i64 t_46.1), (11, .int .i64 t_39.2), (10, .bool t_39.1), (9, .int .i64 t_32.2), (8, v_33), (7, .int .i64 t_25.2), (6, v_26), (4, v_19), (2, v_12), (1, (.slice (some ⟨b_7, 0, .none⟩) 3 3))]) ?_ ?_
  · by_cases hc : (t_11.2 != 0) = false
    · rw [if_pos hc] at eq_53; rw [hc] at S
      refine wl_pureK (l' := [(53, .bool (t_18.2 != 0)), (13, .int .i64 t_46.2), (12, .int .i64 t_46.1), (11, .int .i64 t_39.2), (10, .bool t_39.1), (9, .int .i64 t_32.2), (8, v_33), (7, .int .i64 t_25.2), (6, v_26), (4, v_19), (2, v_12), (1, (.slice (some ⟨b_7, 0, .none⟩) 3 3))]) S tys tys_ok 3 [53, 13, 12, 11, 10, 9, 8, 7, 6, 4, 2, 1] (by kernel_rfl) ?_
      clear S; intro a S
      obtain rfl := Option.some.inj eq_53
      exact ⟨rfl, S.sub (by exact ⟨rfl, rfl, rfl, rfl, rfl, rfl, rfl, rfl, rfl, rfl, rfl, rfl, trivial⟩)⟩
    · rw [if_neg hc] at eq_53; rw [show (t_11.2 != 0) = true from (by simpa using hc)] at S
      refine wl_pureK (l' := [(53, .bool true), (13, .int .i64 t_46.2), (12, .int .i64 t_46.1), (11, .int .i64 t_39.2), (10, .bool t_39.1), (9, .int .i64 t_32.2), (8, v_33), (7, .int .i64 t_25.2), (6, v_26), (4, v_19), (2, v_12), (1, (.slice (some ⟨b_7, 0, .none⟩) 3 3))]) S tys tys_ok 3 [53, 13, 12, 11, 10, 9, 8, 7, 6, 4, 2, 1] (by kernel_rfl) ?_
      clear S; intro a S
      obtain rfl := Option.some.inj eq_53
      exact ⟨rfl, S.sub (by exact ⟨rfl, rfl, rfl, rfl, rfl, rfl, rfl, rfl, rfl, rfl, rfl, rfl, trivial⟩)⟩
  clear S eq_53; rintro a _ ⟨rfl, S⟩
  refine wl_pure (l' := [(54, .bool q_53), (53, .bool q_53), (13, .int .i64 t_46.2), (12, .int .i64 t_46.1), (11, .int .i64 t_39.2), (10, .bool t_39.1), (9, .int .i64 t_32.2), (8, v_33), (7, .int .i64 t_25.2), (6, v_26), (4, v_19), (2, v_12), (1, (.slice (some ⟨b_7, 0, .none⟩) 3 3))]) S tys tys_ok 1 (by kernel_rfl) ?_
  clear S; intro a S
  obtain ⟨q_54, eq_54, h⟩ := bindS h
  refine seg 3 (fun a_ w_ => w_52 = w_ ∧ St 133 a_ [(57, .bool q_54), (13, .int .i64 t_46.2), (12, .int .i64 t_46.1), (11, .int .i64 t_39.2), (10, .bool t_39.1), (9, .int .i64 t_32.2), (8, v_33), (6, v_26), (4, v_19), (2, v_12), (1, (.slice (some ⟨b_7, 0, .none⟩) 3 3))]) ?_ ?_
  · by_cases hc : q_53 = false
    · rw [if_pos hc] at eq_54; rw [hc] at S
      refine wl_pureK (l' := [(57, .bool (t_25.2 != 0)), (13, .int .i64 t_46.2), (12, .int .i64 t_46.1), (11, .int .i64 t_39.2), (10, .bool t_39.1), (9, .int .i64 t_32.2), (8, v_33), (6, v_26), (4, v_19), (2, v_12), (1, (.slice (some ⟨b_7, 0, .none⟩) 3 3))]) S tys tys_ok 3 [57, 13, 12, 11, 10, 9, 8, 6, 4, 2, 1] (by kernel_rfl) ?_
      clear S; intro a S
      obtain rfl := Option.some.inj eq_54
      exact ⟨rfl, S.sub (by exact ⟨rfl, rfl, rfl, rfl, rfl, rfl, rfl, rfl, rfl, rfl, rfl, trivial⟩)⟩
    · rw [if_neg hc] at eq_54; rw [show q_53 = true from (by simpa using hc)] at S
      refine wl_pureK (l' := [(57, .bool true), (13, .int .i64 t_46.2), (12, .int .i64 t_46.1), (11, .int .i64 t_39.2), (10, .bool t_39.1), (9, .int .i64 t_32.2), (8, v_33), (6, v_26), (4, v_19), (2, v_12), (1, (.slice (some ⟨b_7, 0, .none⟩) 3 3))]) S tys tys_ok 3 [57, 13, 12, 11, 10, 9, 8, 6, 4, 2, 1] (by kernel_rfl) ?_
      clear S; intro a S
      obtain rfl := Option.some.inj eq_54
      exact ⟨rfl, S.sub (by exact ⟨rfl, rfl, rfl, rfl, rfl, rfl, rfl, rfl, rfl, rfl, rfl, trivial⟩)⟩
  clear S eq_54; rintro a _ ⟨rfl, S⟩
  refine wl_pure (l' := [(58, .bool q_54), (57, .bool q_54), (13, .int .i64 t_46.2), (12, .int .i64 t_46.1), (11, .int .i64 t_39.2), (10, .bool t_39.1), (9, .int .i64 t_32.2), (8, v_33), (6, v_26), (4, v_19), (2, v_12), (1, (.slice (some ⟨b_7, 0, .none⟩) 3 3))]) S tys tys_ok 1 (by kernel_rfl) ?_
  clear S; intro a S
  obtain ⟨q_55, eq_55, h⟩ := bindS h
  refine seg 3 (fun a_ w_ => w_52 = w_ ∧ St 133 a_ [(61, .bool q_55), (13, .int .i64 t_46.2), (12, .int .i64 t_46.1), (11, .int .i64 t_39.2), (10, .bool t_39.1), (8, v_33), (6, v_26), (4, v_19), (2, v_12), (1, (.slice (some ⟨b_7, 0, .none⟩) 3 3))]) ?_ ?_
  · by_cases hc : q_54 = false
    · rw [if_pos hc] at eq_55; rw [hc] at S
      refine wl_pureK (l' := [(61, .bool (t_32.2 != 0)), (13, .int .i64 t_46.2), (12, .int .i64 t_46.1), (11, .int .i64 t_39.2), (10, .bool t_39.1), (8, v_33), (6, v_26), (4, v_19), (2, v_12), (1, (.slice (some ⟨b_7, 0, .none⟩) 3 3))]) S tys tys_ok 3 [61, 13, 12, 11, 10, 8, 6, 4, 2, 1] (by kernel_rfl) ?_
      clear S; intro a S
      obtain rfl := Option.some.inj eq_55
      exact ⟨rfl, S.sub (by exact ⟨rfl, rfl, rfl, rfl, rfl, rfl, rfl, rfl, rfl, rfl, trivial⟩)⟩
    · rw [if_neg hc] at eq_55; rw [show q_54 = true from (by simpa using hc)] at S
      refine wl_pureK (l' := [(61, .bool true), (13, .int .i64 t_46.2), (12, .int .i64 t_46.1), (11, .int .i64 t_39.2), (10, .bool t_39.1), (8, v_33), (6, v_26), (4, v_19), (2, v_12), (1, (.slice (some ⟨b_7, 0, .none⟩) 3 3))]) S tys tys_ok 3 [61, 13, 12, 11, 10, 8, 6, 4, 2, 1] (by kernel_rfl) ?_
      clear S; intro a S
      obtain rfl := Option.some.inj eq_55
      exact ⟨rfl, S.sub (by exact ⟨rfl, rfl, rfl, rfl, rfl, rfl, rfl, rfl, rfl, rfl, trivial⟩)⟩
  clear S eq_55; rintro a _ ⟨rfl, S⟩
  refine wl_pure (l' := [(62, .bool q_55), (61, .bool q_55), (13, .int .i64 t_46.2), (12, .int .i64 t_46.1), (11, .int .i64 t_39.2), (10, .bool t_39.1), (8, v_33), (6, v_26), (4, v_19), (2, v_12), (1, (.slice (some ⟨b_7, 0, .none⟩) 3 3))]) S tys tys_ok 1 (by kernel_rfl) ?_
  clear S; intro a S
  obtain ⟨q_56, eq_56, h⟩ := bindS h
  refine seg 3 (fun a_ w_ => w_52 = w_ ∧ St 133 a_ [(65, .bool q_56), (13, .int .i64 t_46.2), (12, .int .i64 t_46.1), (10, .bool t_39.1), (8, v_33), (6, v_26), (4, v_19), (2, v_12), (1, (.slice (some ⟨b_7, 0, .none⟩) 3 3))]) ?_ ?_
  · by_cases hc : q_55 = false
    · rw [if_pos hc] at eq_56; rw [hc] at S
      refine wl_pureK (l' := [(65, .bool (t_39.2 != 0)), (13, .int .i64 t_46.2), (12, .int .i64 t_46.1), (10, .bool t_39.1), (8, v_33), (6, v_26), (4, v_19), (2, v_12), (1, (.slice (some ⟨b_7, 0, .none⟩) 3 3))]) S tys tys_ok 3 [65, 13, 12, 10, 8, 6, 4, 2, 1] (by kernel_rfl) ?_
      clear S; intro a S
      obtain rfl := Option.some.inj eq_56
      exact ⟨rfl, S.sub (by exact ⟨rfl, rfl, rfl, rfl, rfl, rfl, rfl, rfl, rfl, trivial⟩)⟩
    · rw [if_neg hc] at eq_56; rw [show q_55 = true from (by simpa using hc)] at S
      refine wl_pureK (l' := [(65, .bool true), (13, .int .i64 t_46.2), (12, .int .i64 t_46.1), (10, .bool t_39.1), (8, v_33), (6, v_26), (4, v_19), (2, v_12), (1, (.slice (some ⟨b_7, 0, .none⟩) 3 3))]) S tys tys_ok 3 [65, 13, 12, 10, 8, 6, 4, 2, 1] (by kernel_rfl) ?_
      clear S; intro a S
      obtain rfl := Option.some.inj eq_56
      exact ⟨rfl, S.sub (by exact ⟨rfl, rfl, rfl, rfl, rfl, rfl, rfl, rfl, rfl, trivial⟩)⟩
  clear S eq_56; rintro a _ ⟨rfl, S⟩
  refine wl_pure (l' := [(66, .bool q_56), (65, .bool q_56), (13, .int .i64 t_46.2), (12, .int .i64 t_46.1), (10, .bool t_39.1), (8, v_33), (6, v_26), (4, v_19), (2, v_12), (1, (.slice (some ⟨b_7, 0, .none⟩) 3 3))]) S tys tys_ok 1 (by kernel_rfl) ?_
  clear S; intro a S
  obtain ⟨q_57, eq_57, h⟩ := bindS h
  refine seg 3 (fun a_ w_ => w_52 = w_ ∧ St 133 a_ [(69, .bool q_57), (12, .int .i64 t_46.1), (10, .bool t_39.1), (8, v_33), (6, v_26), (4, v_19), (2, v_12), (1, (.slice (some ⟨b_7, 0, .none⟩) 3 3))]) ?_ ?_
  · by_cases hc : q_56 = false
    · rw [if_pos hc] at eq_57; rw [hc] at S
      refine wl_pureK (l' := [(69, .bool (t_46.2 != 0)), (12, .int .i64 t_46.1), (10, .bool t_39.1), (8, v_33), (6, v_26), (4, v_19), (2, v_12), (1, (.slice (some ⟨b_7, 0, .none⟩) 3 3))]) S tys tys_ok 3 [69, 12, 10, 8, 6, 4, 2, 1] (by kernel_rfl) ?_
      clear S; intro a S
      obtain rfl := Option.some.inj eq_57
      exact ⟨rfl, S.sub (by exact ⟨rfl, rfl, rfl, rfl, rfl, rfl, rfl, rfl, trivial⟩)⟩
    · rw [if_neg hc] at eq_57; rw [show q_56 = true from (by simpa using hc)] at S
      refine wl_pureK (l' := [(69, .bool true), (12, .int .i64 t_46.1), (10, .bool t_39.1), (8, v_33), (6, v_26), (4, v_19), (2, v_12), (1, (.slice (some ⟨b_7, 0, .none⟩) 3 3))]) S tys tys_ok 3 [69, 12, 10, 8, 6, 4, 2, 1] (by kernel_rfl) ?_
      clear S; intro a S
      obtain rfl := Option.some.inj eq_57
      exact ⟨rfl, S.sub (by exact ⟨rfl, rfl, rfl, rfl, rfl, rfl, rfl, rfl, trivial⟩)⟩
  clear S eq_57; rintro a _ ⟨rfl, S⟩
  refine wl_pure (l' := [(70, .bool q_57), (69, .bool q_57), (12, .int .i64 t_46.1), (10, .bool t_39.1), (8, v_33), (6, v_26), (4, v_19), (2, v_12), (1, (.slice (some ⟨b_7, 0, .none⟩) 3 3))]) S tys tys_ok 1 (by kernel_rfl) ?_
  clear S; intro a S
  obtain ⟨q_58, eq_58, h⟩ := bindS h
  refine seg 5 (fun a_ w_ => St 133 a_ [(75, .bool q_58), (12, .int .i64 t_46.1), (10, .bool t_39.1), (8, v_33), (6, v_26), (4, v_19), (1, (.slice (some ⟨b_7, 0, .none⟩) 3 3))] ∧ Wd w w_ [v_19.ownBlock, v_12.ownBlock, some b_7] ∧ RepV (.sl (.int .i64)) w_ (Kx K w.heap.size [v_19.ownBlock, v_12.ownBlock]) v_33 t_32.1 ∧ RepV (.sl (.int .i64)) w_ (Kx K w.heap.size [v_19.ownBlock, v_12.ownBlock]) v_26 t_25.1 ∧ Ow (.int .i64) 3 w_ w.heap.size (Kx K w.heap.size [v_19.ownBlock, v_12.ownBlock]) v_19 t_18.1.xs t_18.1.cap ∧ Ow gt1 32 w_ w.heap.size (Kx K w.heap.size [v_19.ownBlock, v_12.ownBlock, some b_7]) (.slice (some ⟨b_7, 0, .none⟩) 3 3) ([((-1), 1, true, false, true, false, 100), (0, 1, false, false, true, false, 100), (0, 2, false, false, true, false, 150)] : List (Int × Int × Bool × Bool × Bool × Bool × Int)) (some 3)) ?_ ?_
  · by_cases hc : q_57 = false
    · rw [if_pos hc] at eq_58; rw [hc] at S
      refine wl_pure (l' := [(71, v_12), (70, .bool false), (69, .bool false), (12, .int .i64 t_46.1), (10, .bool t_39.1), (8, v_33), (6, v_26), (4, v_19), (2, v_12), (1, (.slice (some ⟨b_7, 0, .none⟩) 3 3))]) S tys tys_ok 1 (by kernel_rfl) ?_
      clear S; intro a S
      refine w_go S rfl (op_buildSlice (K := K) (e := (.int .i64)) (vs := [.int .i64 350, .int .i64 100, .int .i64 150]) (xs := [350, 100, 150]) S W rfl ty27 rfl rfl (by kernel_rfl) rfl rfl rfl rfl rfl ⟨(RepV.mkInt (by decide)), (RepV.mkInt (by decide)), (RepV.mkInt (by decide)), trivial⟩ ?_)
      clear S; intro a w_62 v_59 hb_61 R_60 S
      replace R_35 := R_35.step hb_61
      replace R_28 := R_28.step hb_61
      replace R_21 := R_21.step hb_61
      replace R_14 := R_14.step hb_61
      replace O_10 := O_10.step hb_61
      replace W := W.step hb_61
      obtain ⟨t_63, et_63, eq_58⟩ := bindS eq_58
      refine w_go S rfl (op_call (vs := [v_12, v_59]) S rfl cb18 rfl rfl rfl (c18 (Kx K w.heap.size []) n w_62 (⟨t_11.1.xs, t_11.1.cap⟩ : Sl (Int)) _ (Ow.read R_14) (⟨[350, 100, 150], some 3⟩ : Sl (Int)) _ R_60.out et_63) ?_)
      rintro _ w_67 ⟨v_64, rfl, R_65, hb_66⟩; refine ⟨_, rfl, ?_⟩
      clear S; intro a S
      replace R_35 := R_35.step hb_66
      replace R_28 := R_28.step hb_66
      replace R_60 := R_60.step hb_66
      replace R_21 := R_21.step hb_66
      replace R_14 := R_14.step hb_66
      replace O_10 := O_10.step hb_66
      replace W := W.step hb_66
      obtain rfl := RepV.bool R_65
      refine wl_pureK (l' := [(75, .bool (!t_63)), (12, .int .i64 t_46.1), (10, .bool t_39.1), (8, v_33), (6, v_26), (4, v_19), (1, (.slice (some ⟨b_7, 0, .none⟩) 3 3))]) S tys tys_ok 2 [75, 12, 10, 8, 6, 4, 1] (by kernel_rfl) ?_
      clear S; intro a S
      obtain rfl := Option.some.inj eq_58
      exact ⟨S.sub (by exact ⟨rfl, rfl, rfl, rfl, rfl, rfl, rfl, trivial⟩), W, R_35, R_28, R_21, O_10⟩
    · rw [if_neg hc] at eq_58; rw [show q_57 = true from (by simpa using hc)] at S
      refine wl_pureK (l' := [(75, .bool true), (12, .int .i64 t_46.1), (10, .bool t_39.1), (8, v_33), (6, v_26), (4, v_19), (1, (.slice (some ⟨b_7, 0, .none⟩) 3 3))]) S tys tys_ok 5 [75, 12, 10, 8, 6, 4, 1] (by kernel_rfl) ?_
      clear S; intro a S
      obtain rfl := Option.some.inj eq_58
      exact ⟨S.sub (by exact ⟨rfl, rfl, rfl, rfl, rfl, rfl, rfl, trivial⟩), W, R_35, R_28, R_21, O_10⟩
  clear S W eq_58; rintro a w_68 ⟨S, W, R_35, R_28, R_21, O_10⟩
  refine wl_pure (l' := [(76, .bool q_58), (75, .bool q_58), (12, .int .i64 t_46.1), (10, .bool t_39.1), (8, v_33), (6, v_26), (4, v_19), (1, (.slice (some ⟨b_7, 0, .none⟩) 3 3))]) S tys tys_ok 1 (by kernel_rfl) ?_
  clear S; intro a S
  obtain ⟨q_69, eq_69, h⟩ := bindS h
  refine seg 5 (fun a_ w_ => St 133 a_ [(81, .bool q_69), (12, .int .i64 t_46.1), (10, .bool t_39.1), (8, v_33), (6, v_26), (1, (.slice (some ⟨b_7, 0, .none⟩) 3 3))] ∧ Wd w w_ [v_19.ownBlock, v_12.ownBlock, some b_7] ∧ RepV (.sl (.int .i64)) w_ (Kx K w.heap.size [v_19.ownBlock, v_12.ownBlock]) v_33 t_32.1 ∧ RepV (.sl (.int .i64)) w_ (Kx K w.heap.size [v_19.ownBlock, v_12.ownBlock]) v_26 t_25.1 ∧ Ow gt1 32 w_ w.heap.size (Kx K w.heap.size [v_19.ownBlock, v_12.ownBlock, some b_7]) (.slice (some ⟨b_7, 0, .none⟩) 3 3) ([((-1), 1, true, false, true, false, 100), (0, 1, false, false, true, false, 100), (0, 2, false, false, true, false, 150)] : List (Int × Int × Bool × Bool × Bool × Bool × Int)) (some 3)) ?_ ?_
  · by_cases hc : q_58 = false
    · rw [if_pos hc] at eq_69; rw [hc] at S
      refine wl_pure (l' := [(77, v_19), (76, .bool false), (75, .bool false), (12, .int .i64 t_46.1), (10, .bool t_39.1), (8, v_33), (6, v_26), (4, v_19), (1, (.slice (some ⟨b_7, 0, .none⟩) 3 3))]) S tys tys_ok 1 (by kernel_rfl) ?_
      clear S; intro a S
      refine w_go S rfl (op_buildSlice (K := K) (e := (.int .i64)) (vs := [.int .i64 500, .int .i64 100, .int .i64 100]) (xs := [500, 100, 100]) S W rfl ty27 rfl rfl (by kernel_rfl) rfl rfl rfl rfl rfl ⟨(RepV.mkInt (by decide)), (RepV.mkInt (by decide)), (RepV.mkInt (by decide)), trivial⟩ ?_)
      clear S; intro a w_73 v_70 hb_72 R_71 S
      replace R_35 := R_35.step hb_72
      replace R_28 := R_28.step hb_72
      replace R_21 := R_21.step hb_72
      replace O_10 := O_10.step hb_72
      replace W := W.step hb_72
      obtain ⟨t_74, et_74, eq_69⟩ := bindS eq_69
      refine w_go S rfl (op_call (vs := [v_19, v_70]) S rfl cb18 rfl rfl rfl (c18 (Kx K w.heap.size []) n w_73 (⟨t_18.1.xs, t_18.1.cap⟩ : Sl (Int)) _ (Ow.read R_21) (⟨[500, 100, 100], some 3⟩ : Sl (Int)) _ R_71.out et_74) ?_)
      rintro _ w_78 ⟨v_75, rfl, R_76, hb_77⟩; refine ⟨_, rfl, ?_⟩
      clear S; intro a S
      replace R_35 := R_35.step hb_77
      replace R_28 := R_28.step hb_77
      replace R_71 := R_71.step hb_77
      replace R_21 := R_21.step hb_77
      replace O_10 := O_10.step hb_77
      replace W := W.step hb_77
      obtain rfl := RepV.bool R_76
      refine wl_pureK (l' := [(81, .bool (!t_74)), (12, .int .i64 t_46.1), (10, .bool t_39.1), (8, v_33), (6, v_26), (1, (.slice (some ⟨b_7, 0, .none⟩) 3 3))]) S tys tys_ok 2 [81, 12, 10, 8, 6, 1] (by kernel_rfl) ?_
      clear S; intro a S
      obtain rfl := Option.some.inj eq_69
      exact ⟨S.sub (by exact ⟨rfl, rfl, rfl, rfl, rfl, rfl, trivial⟩), W, R_35, R_28, O_10⟩
    · rw [if_neg hc] at eq_69; rw [show q_58 = true from (by simpa using hc)] at S
      refine wl_pureK (l' := [(81, .bool true), (12, .int .i64 t_46.1), (10, .bool t_39.1), (8, v_33), (6, v_26), (1, (.slice (some ⟨b_7, 0, .none⟩) 3 3))]) S tys tys_ok 5 [81, 12, 10, 8, 6, 1] (by kernel_rfl) ?_
      clear S; intro a S
      obtain rfl := Option.some.inj eq_69
      exact ⟨S.sub (by exact ⟨rfl, rfl, rfl, rfl, rfl, rfl, trivial⟩), W, R_35, R_28, O_10⟩
  clear S W eq_69; rintro a w_79 ⟨S, W, R_35, R_28, O_10⟩
  refine wl_pure (l' := [(82, .bool q_69), (81, .bool q_69), (12, .int .i64 t_46.1), (10, .bool t_39.1), (8, v_33), (6, v_26), (1, (.slice (some ⟨b_7, 0, .none⟩) 3 3))]) S tys tys_ok 1 (by kernel_rfl) ?_
  clear S; intro a S
  obtain ⟨q_80, eq_80, h⟩ := bindS h
  refine seg 5 (fun a_ w_ => St 133 a_ [(87, .bool q_80), (12, .int .i64 t_46.1), (10, .bool t_39.1), (8, v_33), (1, (.slice (some ⟨b_7, 0, .none⟩) 3 3))] ∧ Wd w w_ [v_19.ownBlock, v_12.ownBlock, some b_7] ∧ RepV (.sl (.int .i64)) w_ (Kx K w.heap.size [v_19.ownBlock, v_12.ownBlock]) v_33 t_32.1 ∧ Ow gt1 32 w_ w.heap.size (Kx K w.heap.size [v_19.ownBlock, v_12.ownBlock, some b_7]) (.slice (some ⟨b_7, 0, .none⟩) 3 3) ([((-1), 1, true, false, true, false, 100), (0, 1, false, false, true, false, 100), (0, 2, false, false, true, false, 150)] : List (Int × Int × Bool × Bool × Bool × Bool × Int)) (some 3)) ?_ ?_
  · by_cases hc : q_69 = false
    · rw [if_pos hc] at eq_80; rw [hc] at S
      refine wl_pure (l' := [(83, v_26), (82, .bool false), (81, .bool false), (12, .int .i64 t_46.1), (10, .bool t_39.1), (8, v_33), (6, v_26), (1, (.slice (some ⟨b_7, 0, .none⟩) 3 3))]) S tys tys_ok 1 (by kernel_rfl) ?_
      clear S; intro a S
      refine w_go S rfl (op_buildSlice (K := K) (e := (.int .i64)) (vs := [.int .i64 2]) (xs := [2]) S W rfl ty27 rfl rfl (by kernel_rfl) rfl rfl rfl rfl rfl ⟨(RepV.mkInt (by decide)), trivial⟩ ?_)
      clear S; intro a w_84 v_81 hb_83 R_82 S
      replace R_35 := R_35.step hb_83
      replace R_28 := R_28.step hb_83
      replace O_10 := O_10.step hb_83
      replace W := W.step hb_83
      obtain ⟨t_85, et_85, eq_80⟩ := bindS eq_80
      refine w_go S rfl (op_call (vs := [v_26, v_81]) S rfl cb18 rfl rfl rfl (c18 (Kx K w.heap.size []) n w_84 t_25.1 _ R_28.out (⟨[2], some 1⟩ : Sl (Int)) _ R_82.out et_85) ?_)
      rintro _ w_89 ⟨v_86, rfl, R_87, hb_88⟩; refine ⟨_, rfl, ?_⟩
      clear S; intro a S
      replace R_35 := R_35.step hb_88
      replace R_28 := R_28.step hb_88
      replace R_82 := R_82.step hb_88
      replace O_10 := O_10.step hb_88
      replace W := W.step hb_88
      obtain rfl := RepV.bool R_87
      refine wl_pureK (l' := [(87, .bool (!t_85)), (12, .int .i64 t_46.1), (10, .bool t_39.1), (8, v_33), (1, (.slice (some ⟨b_7, 0, .none⟩) 3 3))]) S tys tys_ok 2 [87, 12, 10, 8, 1] (by kernel_rfl) ?_
      clear S; intro a S
      obtain rfl := Option.some.inj eq_80
      exact ⟨S.sub (by exact ⟨rfl, rfl, rfl, rfl, rfl, trivial⟩), W, R_35, O_10⟩
    · rw [if_neg hc] at eq_80; rw [show q_69 = true from (by simpa using hc)] at S
      refine wl_pureK (l' := [(87, .bool true), (12, .int .i64 t_46.1), (10, .bool t_39.1), (8, v_33), (1, (.slice (some ⟨b_7, 0, .none⟩) 3 3))]) S tys tys_ok 5 [87, 12, 10, 8, 1] (by kernel_rfl) ?_
      clear S; intro a S
      obtain rfl := Option.some.inj eq_80
      exact ⟨S.sub (by exact ⟨rfl, rfl, rfl, rfl, rfl, trivial⟩), W, R_35, O_10⟩
  clear S W eq_80; rintro a w_90 ⟨S, W, R_35, O_10⟩
  refine wl_pure (l' := [(88, .bool q_80), (87, .bool q_80), (12, .int .i64 t_46.1), (10, .bool t_39.1), (8, v_33), (1, (.slice (some ⟨b_7, 0, .none⟩) 3 3))]) S tys tys_ok 1 (by kernel_rfl) ?_
  clear S; intro a S
  obtain ⟨q_91, eq_91, h⟩ := bindS h
  refine seg 5 (fun a_ w_ => St 133 a_ [(93, .bool q_91), (12, .int .i64 t_46.1), (10, .bool t_39.1), (1, (.slice (some ⟨b_7, 0, .none⟩) 3 3))] ∧ Wd w w_ [v_19.ownBlock, v_12.ownBlock, some b_7] ∧ Ow gt1 32 w_ w.heap.size (Kx K w.heap.size [v_19.ownBlock, v_12.ownBlock, some b_7]) (.slice (some ⟨b_7, 0, .none⟩) 3 3) ([((-1), 1, true, false, true, false, 100), (0, 1, false, false, true, false, 100), (0, 2, false, false, true, false, 150)] : List (Int × Int × Bool × Bool × Bool × Bool × Int)) (some 3)) ?_ ?_
  · by_cases hc : q_80 = false
    · rw [if_pos hc] at eq_91; rw [hc] at S
      refine wl_pure (l' := [(89, v_33), (88, .bool false), (87, .bool false), (12, .int .i64 t_46.1), (10, .bool t_39.1), (8, v_33), (1, (.slice (some ⟨b_7, 0, .none⟩) 3 3))]) S tys tys_ok 1 (by kernel_rfl) ?_
      clear S; intro a S
      refine w_go S rfl (op_buildSlice (K := K) (e := (.int .i64)) (vs := [.int .i64 2]) (xs := [2]) S W rfl ty27 rfl rfl (by kernel_rfl) rfl rfl rfl rfl rfl ⟨(RepV.mkInt (by decide)), trivial⟩ ?_)
      clear S; intro a w_95 v_92 hb_94 R_93 S
      replace R_35 := R_35.step hb_94
      replace O_10 := O_10.step hb_94
      replace W := W.step hb_94
      obtain ⟨t_96, et_96, eq_91⟩ := bindS eq_91
      refine w_go S rfl (op_call (vs := [v_33, v_92]) S rfl cb18 rfl rfl rfl (c18 (Kx K w.heap.size []) n w_95 t_32.1 _ R_35.out (⟨[2], some 1⟩ : Sl (Int)) _ R_93.out et_96) ?_)
      rintro _ w_100 ⟨v_97, rfl, R_98, hb_99⟩; refine ⟨_, rfl, ?_⟩
      clear S; intro a S
      replace R_35 := R_35.step hb_99
      replace R_93 := R_93.step hb_99
      replace O_10 := O_10.step hb_99
      replace W := W.step hb_99
      obtain rfl := RepV.bool R_98
      refine wl_pureK (l' := [(93, .bool (!t_96)), (12, .int .i64 t_46.1), (10, .bool t_39.1), (1, (.slice (some ⟨b_7, 0, .none⟩) 3 3))]) S tys tys_ok 2 [93, 12, 10, 1] (by kernel_rfl) ?_
      clear S; intro a S
      obtain rfl := Option.some.inj eq_91
      exact ⟨S.sub (by exact ⟨rfl, rfl, rfl, rfl, trivial⟩), W, O_10⟩
    · rw [if_neg hc] at eq_91; rw [show q_80 = true from (by simpa using hc)] at S
      refine wl_pureK (l' := [(93, .bool true), (12, .int .i64 t_46.1), (10, .bool t_39.1), (1, (.slice (some ⟨b_7, 0, .none⟩) 3 3))]) S tys tys_ok 5 [93, 12, 10, 1] (by kernel_rfl) ?_
      clear S; intro a S
      obtain rfl := Option.some.inj eq_91
      exact ⟨S.sub (by exact ⟨rfl, rfl, rfl, rfl, trivial⟩), W, O_10⟩
  clear S W eq_91; rintro a w_101 ⟨S, W, O_10⟩
  refine wl_pure (l' := [(94, .bool q_91), (93, .bool q_91), (12, .int .i64 t_46.1), (10, .bool t_39.1), (1, (.slice (some ⟨b_7, 0, .none⟩) 3 3))]) S tys tys_ok 1 (by kernel_rfl) ?_
  clear S; intro a S
  obtain ⟨q_102, eq_102, h⟩ := bindS h
  refine seg 3 (fun a_ w_ => w_101 = w_ ∧ St 133 a_ [(97, .bool q_102), (12, .int .i64 t_46.1), (1, (.slice (some ⟨b_7, 0, .none⟩) 3 3))]) ?_ ?_
  · by_cases hc : q_91 = false
    · rw [if_pos hc] at eq_102; rw [hc] at S
      refine wl_pureK (l' := [(97, .bool (!t_39.1)), (12, .int .i64 t_46.1), (1, (.slice (some ⟨b_7, 0, .none⟩) 3 3))]) S tys tys_ok 3 [97, 12, 1] (by kernel_rfl) ?_
      clear S; intro a S
      obtain rfl := Option.some.inj eq_102
      exact ⟨rfl, S.sub (by exact ⟨rfl, rfl, rfl, trivial⟩)⟩
    · rw [if_neg hc] at eq_102; rw [show q_91 = true from (by simpa using hc)] at S
      refine wl_pureK (l' := [(97, .bool true), (12, .int .i64 t_46.1), (1, (.slice (some ⟨b_7, 0, .none⟩) 3 3))]) S tys tys_ok 3 [97, 12, 1] (by kernel_rfl) ?_
      clear S; intro a S
      obtain rfl := Option.some.inj eq_102
      exact ⟨rfl, S.sub (by exact ⟨rfl, rfl, rfl, trivial⟩)⟩
  clear S eq_102; rintro a _ ⟨rfl, S⟩
  refine wl_pure (l' := [(98, .bool q_102), (97, .bool q_102), (12, .int .i64 t_46.1), (1, (.slice (some ⟨b_7, 0, .none⟩) 3 3))]) S tys tys_ok 1 (by kernel_rfl) ?_
  clear S; intro a S
  obtain ⟨q_103, eq_103, h⟩ := bindS h
  refine seg 3 (fun a_ w_ => w_101 = w_ ∧ St 133 a_ [(101, .bool q_103), (1, (.slice (some ⟨b_7, 0, .none⟩) 3 3))]) ?_ ?_
  · by_cases hc : q_102 = false
    · rw [if_pos hc] at eq_103; rw [hc] at S
      refine wl_pureK (l' := [(101, .bool (t_46.1 != 100)), (1, (.slice (some ⟨b_7, 0, .none⟩) 3 3))]) S tys tys_ok 3 [101, 1] (by kernel_rfl) ?_
      clear S; intro a S
      obtain rfl := Option.some.inj eq_103
      exact ⟨rfl, S.sub (by exact ⟨rfl, rfl, trivial⟩)⟩
    · rw [if_neg hc] at eq_103; rw [show q_102 = true from (by simpa using hc)] at S
      refine wl_pureK (l' := [(101, .bool true), (1, (.slice (some ⟨b_7, 0, .none⟩) 3 3))]) S tys tys_ok 3 [101, 1] (by kernel_rfl) ?_
      clear S; intro a S
      obtain rfl := Option.some.inj eq_103
      exact ⟨rfl, S.sub (by exact ⟨rfl, rfl, trivial⟩)⟩
  clear S eq_103; rintro a _ ⟨rfl, S⟩
  refine wpList_nil ?_
  refine then_n ?_
  refine wp_cond_split (S.eval (show ev _ _ = some (.bool q_103) from rfl)) ?_ ?_
  · intro hc
    rw [if_pos hc] at h
    refine wp_seq ?_
    refine wp_region_lit ?_
    refine wl_pure (l' := [(0, .bool false), (101, .bool q_103), (1, (.slice (some ⟨b_7, 0, .none⟩) 3 3))]) S tys tys_ok 1 (by kernel_rfl) ?_
    clear S; intro a S
    refine wpList_nil ?_
    refine then_n ?_
    replace S := S.sub (l' := [(0, .bool false)]) (by exact ⟨rfl, trivial⟩)
    refine wp_ret ?_
    refine then_r ?_
    obtain rfl := Option.some.inj h
    exact b_ret1 S rfl rfl ⟨_, rfl, RepV.mkBool, W.below⟩
  · intro hc
    rw [if_neg (Bool.eq_false_iff.1 hc)] at h
    refine wp_skip ?_
    refine then_n ?_
    replace S := S.sub (l' := [(1, (.slice (some ⟨b_7, 0, .none⟩) 3 3))]) (by exact ⟨rfl, trivial⟩)
    refine wp_seq ?_
    refine wp_region_lit ?_
    refine wl_pure (l' := [(102, (.slice (some ⟨b_7, 0, .none⟩) 3 3)), (1, (.slice (some ⟨b_7, 0, .none⟩) 3 3))]) S tys tys_ok 1 (by kernel_rfl) ?_
    clear S; intro a S
    obtain ⟨y_104, ey_104, h⟩ := bindS h
    refine w_go S rfl (op_indexAddr_own S rfl ty24 rfl rfl rfl O_10 rfl ey_104 ?_)
    clear S; intro a g_105 H_107 R_106 S
    refine wl_pure (l' := [(104, .pointer (some ((⟨g_105, (0 : Int).toNat * GT.sz gt1, .none⟩ : Addr).add (coff gf1 6)))), (103, .pointer (some (⟨g_105, (0 : Int).toNat * GT.sz gt1, .none⟩ : Addr))), (102, (.slice (some ⟨b_7, 0, .none⟩) 3 3)), (1, (.slice (some ⟨b_7, 0, .none⟩) 3 3))]) S tys tys_ok 1 (by kernel_rfl) ?_
    clear S; intro a S
    refine w_go S rfl (op_store_own (t' := (.int .i64)) S rfl rfl ty3 rfl (addr_add _ _ _) rfl O_10 H_107 2 rfl (idx_some ey_104).2.1 (Ln.st (Ln.comp 6)) ((RepV.mkInt (by decide)) : RepV (.int .i64) w_101 (Kx K w.heap.size [v_19.ownBlock, v_12.ownBlock, some b_7]) _ 500) ?_)
    intro w_108 hw_109 hm_111 O_110
    replace W := W.wrote hw_109 hm_111
    replace O_110 : Ow gt1 32 w_108 w.heap.size (Kx K w.heap.size [v_19.ownBlock, v_12.ownBlock, some b_7]) (.slice (some ⟨b_7, 0, .none⟩) 3 3) (([((-1), 1, true, false, true, false, 100), (0, 1, false, false, true, false, 100), (0, 2, false, false, true, false, 150)] : List (Int × Int × Bool × Bool × Bool × Bool × Int)).set (0 : Int).toNat (y_104.1, y_104.2.1, y_104.2.2.1, y_104.2.2.2.1, y_104.2.2.2.2.1, y_104.2.2.2.2.2.1, 500)) (some 3) := O_110
    refine wpList_nil ?_
    refine then_n ?_
    replace S := S.sub (l' := [(1, (.slice (some ⟨b_7, 0, .none⟩) 3 3))]) (by exact ⟨rfl, trivial⟩)
    refine wp_seq ?_
    refine wp_region_lit ?_
    refine wl_pure (l' := [(106, (.slice (some ⟨b_7, 0, .none⟩) 3 3)), (1, (.slice (some ⟨b_7, 0, .none⟩) 3 3))]) S tys tys_ok 1 (by kernel_rfl) ?_
    clear S; intro a S
    obtain ⟨t_112, et_112, h⟩ := bindS h
    refine w_go S rfl (op_call (vs := [(.slice (some ⟨b_7, 0, .none⟩) 3 3)]) S rfl cb14 rfl rfl rfl (c14 (Kx K w.heap.size [v_19.ownBlock, v_12.ownBlock]) n w_108 (⟨(([((-1), 1, true, false, true, false, 100), (0, 1, false, false, true, false, 100), (0, 2, false, false, true, false, 150)] : List (Int × Int × Bool × Bool × Bool × Bool × Int)).set (0 : Int).toNat (y_104.1, y_104.2.1, y_104.2.2.1, y_104.2.2.2.1, y_104.2.2.2.2.1, y_104.2.2.2.2.2.1, 500)), some 3⟩ : Sl (Int × Int × Bool × Bool × Bool × Bool × Int)) _ (O_110.pubAt W 2 rfl) et_112) ?_)
    rintro _ w_118 ⟨v_113, v_114, rfl, R_115, R_116, hb_117⟩; refine ⟨_, rfl, ?_⟩
    have NO_ := newO_of R_115 (Nat.le_refl _) hb_117
    replace R_115 := Ow.backO R_115 (W.lessAt 2)
    replace R_116 := RepV.backO R_116 (W.lessAt 2)
    clear S; intro a S
    replace O_110 := O_110.newO NO_
    replace W := W.newO NO_
    clear NO_
    obtain ⟨rfl, GR_116⟩ := RepV.int R_116
    refine wl_pureK (l' := [(2, v_113), (1, (.slice (some ⟨b_7, 0, .none⟩) 3 3))]) S tys tys_ok 4 [2, 1] (by kernel_rfl) ?_
    clear S; intro a S
    refine wpList_nil ?_
    refine then_n ?_
    refine wp_seq ?_
    refine wp_region_lit ?_
    refine wl_pure (l' := [(111, (.slice (some ⟨b_7, 0, .none⟩) 3 3)), (2, v_113), (1, (.slice (some ⟨b_7, 0, .none⟩) 3 3))]) S tys tys_ok 1 (by kernel_rfl) ?_
    clear S; intro a S
    obtain ⟨t_119, et_119, h⟩ := bindS h
    refine w_go S rfl (op_call (vs := [(.slice (some ⟨b_7, 0, .none⟩) 3 3)]) S rfl cb16 rfl rfl rfl (c16 (Kx K w.heap.size [v_113.ownBlock, v_19.ownBlock, v_12.ownBlock]) n w_118 (⟨(([((-1), 1, true, false, true, false, 100), (0, 1, false, false, true, false, 100), (0, 2, false, false, true, false, 150)] : List (Int × Int × Bool × Bool × Bool × Bool × Int)).set (0 : Int).toNat (y_104.1, y_104.2.1, y_104.2.2.1, y_104.2.2.2.1, y_104.2.2.2.2.1, y_104.2.2.2.2.2.1, 500)), some 3⟩ : Sl (Int × Int × Bool × Bool × Bool × Bool × Int)) _ (O_110.pubAt W 3 rfl) et_119) ?_)
    rintro _ w_125 ⟨v_120, v_121, rfl, R_122, R_123, hb_124⟩; refine ⟨_, rfl, ?_⟩
    replace R_122 := RepV.back R_122 (W.lessAt 3)
    replace R_123 := RepV.back R_123 (W.lessAt 3)
    clear S; intro a S
    replace O_110 := O_110.step hb_124
    replace R_115 := R_115.step hb_124
    replace W := W.step hb_124
    obtain ⟨rfl, GR_123⟩ := RepV.int R_123
    refine wl_pureK (l' := [(6, v_120), (2, v_113), (1, (.slice (some ⟨b_7, 0, .none⟩) 3 3))]) S tys tys_ok 4 [6, 2, 1] (by kernel_rfl) ?_
    clear S; intro a S
    refine wpList_nil ?_
    refine then_n ?_
    refine wp_seq ?_
    refine wp_region_lit ?_
    refine wl_pure (l' := [(116, (.slice (some ⟨b_7, 0, .none⟩) 3 3)), (6, v_120), (2, v_113), (1, (.slice (some ⟨b_7, 0, .none⟩) 3 3))]) S tys tys_ok 1 (by kernel_rfl) ?_
    clear S; intro a S
    obtain ⟨t_126, et_126, h⟩ := bindS h
    refine w_go S rfl (op_call (vs := [(.slice (some ⟨b_7, 0, .none⟩) 3 3)]) S rfl cb20 rfl rfl rfl (c20 (Kx K w.heap.size [v_113.ownBlock, v_19.ownBlock, v_12.ownBlock]) n w_125 (⟨(([((-1), 1, true, false, true, false, 100), (0, 1, false, false, true, false, 100), (0, 2, false, false, true, false, 150)] : List (Int × Int × Bool × Bool × Bool × Bool × Int)).set (0 : Int).toNat (y_104.1, y_104.2.1, y_104.2.2.1, y_104.2.2.2.1, y_104.2.2.2.2.1, y_104.2.2.2.2.2.1, 500)), some 3⟩ : Sl (Int × Int × Bool × Bool × Bool × Bool × Int)) _ (O_110.pubAt W 3 rfl) et_126) ?_)
    rintro _ w_132 ⟨v_127, v_128, rfl, R_129, R_130, hb_131⟩; refine ⟨_, rfl, ?_⟩
    replace R_129 := RepV.back R_129 (W.lessAt 3)
    replace R_130 := RepV.back R_130 (W.lessAt 3)
    clear S; intro a S
    replace R_122 := R_122.step hb_131
    replace O_110 := O_110.step hb_131
    replace R_115 := R_115.step hb_131
    replace W := W.step hb_131
    obtain ⟨rfl, GR_130⟩ := RepV.int R_130
    refine wl_pureK (l' := [(8, v_127), (6, v_120), (2, v_113)]) S tys tys_ok 4 [8, 6, 2] (by kernel_rfl) ?_
    clear S; intro a S
    refine wpList_nil ?_
    refine then_n ?_
    refine wp_seq ?_
    refine wp_region_lit ?_
    refine wl_pure (l' := [(120, v_113), (8, v_127), (6, v_120), (2, v_113)]) S tys tys_ok 1 (by kernel_rfl) ?_
    clear S; intro a S
    refine w_go S rfl (op_buildSlice (K := K) (e := (.int .i64)) (vs := [.int .i64 750, .int .i64 100, .int .i64 150]) (xs := [750, 100, 150]) S W rfl ty27 rfl rfl (by kernel_rfl) rfl rfl rfl rfl rfl ⟨(RepV.mkInt (by decide)), (RepV.mkInt (by decide)), (RepV.mkInt (by decide)), trivial⟩ ?_)
    clear S; intro a w_136 v_133 hb_135 R_134 S
    replace R_122 := R_122.step hb_135
    replace R_129 := R_129.step hb_135
    replace R_115 := R_115.step hb_135
    replace W := W.step hb_135
    obtain ⟨t_137, et_137, h⟩ := bindS h
    refine w_go S rfl (op_call (vs := [v_113, v_133]) S rfl cb18 rfl rfl rfl (c18 (Kx K w.heap.size []) n w_136 (⟨t_112.1.xs, t_112.1.cap⟩ : Sl (Int)) _ (Ow.read R_115) (⟨[750, 100, 150], some 3⟩ : Sl (Int)) _ R_134.out et_137) ?_)
    rintro _ w_141 ⟨v_138, rfl, R_139, hb_140⟩; refine ⟨_, rfl, ?_⟩
    clear S; intro a S
    replace R_122 := R_122.step hb_140
    replace R_129 := R_129.step hb_140
    replace R_134 := R_134.step hb_140
    replace R_115 := R_115.step hb_140
    replace W := W.step hb_140
    obtain rfl := RepV.bool R_139
    refine wl_pureK (l' := [(123, .bool t_137), (8, v_127), (6, v_120)]) S tys tys_ok 1 [123, 8, 6] (by kernel_rfl) ?_
    clear S; intro a S
    obtain ⟨q_142, eq_142, h⟩ := bindS h
    refine seg 4 (fun a_ w_ => St 133 a_ [(127, .bool q_142), (8, v_127)] ∧ Wd w w_ [v_113.ownBlock, v_19.ownBlock, v_12.ownBlock, some b_7] ∧ RepV (.sl (.int .i64)) w_ (Kx K w.heap.size [v_113.ownBlock, v_19.ownBlock, v_12.ownBlock]) v_127 t_126.1) ?_ ?_
    · by_cases hc : t_137 = true
      · rw [if_pos hc] at eq_142; rw [hc] at S
        refine wl_pure (l' := [(124, v_120), (123, .bool true), (8, v_127), (6, v_120)]) S tys tys_ok 1 (by kernel_rfl) ?_
        clear S; intro a S
        refine w_go S rfl (op_buildSlice (K := K) (e := (.int .i64)) (vs := [.int .i64 0, .int .i64 2]) (xs := [0, 2]) S W rfl ty27 rfl rfl (by kernel_rfl) rfl rfl rfl rfl rfl ⟨(RepV.mkInt (by decide)), (RepV.mkInt (by decide)), trivial⟩ ?_)
        clear S; intro a w_146 v_143 hb_145 R_144 S
        replace R_122 := R_122.step hb_145
        replace R_129 := R_129.step hb_145
        replace W := W.step hb_145
        obtain ⟨t_147, et_147, eq_142⟩ := bindS eq_142
        refine w_go S rfl (op_call (vs := [v_120, v_143]) S rfl cb18 rfl rfl rfl (c18 (Kx K w.heap.size []) n w_146 t_119.1 _ R_122.out (⟨[0, 2], some 2⟩ : Sl (Int)) _ R_144.out et_147) ?_)
        rintro _ w_151 ⟨v_148, rfl, R_149, hb_150⟩; refine ⟨_, rfl, ?_⟩
        clear S; intro a S
        replace R_122 := R_122.step hb_150
        replace R_129 := R_129.step hb_150
        replace R_144 := R_144.step hb_150
        replace W := W.step hb_150
        obtain rfl := RepV.bool R_149
        refine wl_pureK (l' := [(127, .bool t_147), (8, v_127)]) S tys tys_ok 1 [127, 8] (by kernel_rfl) ?_
        clear S; intro a S
        obtain rfl := Option.some.inj eq_142
        exact ⟨S.sub (by exact ⟨rfl, rfl, trivial⟩), W, R_129⟩
      · rw [if_neg hc] at eq_142; rw [show t_137 = false from Bool.eq_false_iff.2 hc] at S
        refine wl_pureK (l' := [(127, .bool false), (8, v_127)]) S tys tys_ok 4 [127, 8] (by kernel_rfl) ?_
        clear S; intro a S
        obtain rfl := Option.some.inj eq_142
        exact ⟨S.sub (by exact ⟨rfl, rfl, trivial⟩), W, R_129⟩
    clear S W eq_142; rintro a w_152 ⟨S, W, R_129⟩
    refine wl_pure (l' := [(128, .bool q_142), (127, .bool q_142), (8, v_127)]) S tys tys_ok 1 (by kernel_rfl) ?_
    clear S; intro a S
    obtain ⟨q_153, eq_153, h⟩ := bindS h
    refine seg 4 (fun a_ w_ => St 133 a_ [(132, .bool q_153)] ∧ Wd w w_ [v_113.ownBlock, v_19.ownBlock, v_12.ownBlock, some b_7]) ?_ ?_
    · by_cases hc : q_142 = true
      · rw [if_pos hc] at eq_153; rw [hc] at S
        refine wl_pure (l' := [(129, v_127), (128, .bool true), (127, .bool true), (8, v_127)]) S tys tys_ok 1 (by kernel_rfl) ?_
        clear S; intro a S
        refine w_go S rfl (op_buildSlice (K := K) (e := (.int .i64)) (vs := [.int .i64 0, .int .i64 1, .int .i64 2]) (xs := [0, 1, 2]) S W rfl ty27 rfl rfl (by kernel_rfl) rfl rfl rfl rfl rfl ⟨(RepV.mkInt (by decide)), (RepV.mkInt (by decide)), (RepV.mkInt (by decide)), trivial⟩ ?_)
        clear S; intro a w_157 v_154 hb_156 R_155 S
        replace R_129 := R_129.step hb_156
        replace W := W.step hb_156
        obtain ⟨t_158, et_158, eq_153⟩ := bindS eq_153
        refine w_go S rfl (op_call (vs := [v_127, v_154]) S rfl cb18 rfl rfl rfl (c18 (Kx K w.heap.size []) n w_157 t_126.1 _ R_129.out (⟨[0, 1, 2], some 3⟩ : Sl (Int)) _ R_155.out et_158) ?_)
        rintro _ w_162 ⟨v_159, rfl, R_160, hb_161⟩; refine ⟨_, rfl, ?_⟩
        clear S; intro a S
        replace R_129 := R_129.step hb_161
        replace R_155 := R_155.step hb_161
        replace W := W.step hb_161
        obtain rfl := RepV.bool R_160
        refine wl_pureK (l' := [(132, .bool t_158)]) S tys tys_ok 1 [132] (by kernel_rfl) ?_
        clear S; intro a S
        obtain rfl := Option.some.inj eq_153
        exact ⟨S.sub (by exact ⟨rfl, trivial⟩), W⟩
      · rw [if_neg hc] at eq_153; rw [show q_142 = false from Bool.eq_false_iff.2 hc] at S
        refine wl_pureK (l' := [(132, .bool false)]) S tys tys_ok 4 [132] (by kernel_rfl) ?_
        clear S; intro a S
        obtain rfl := Option.some.inj eq_153
        exact ⟨S.sub (by exact ⟨rfl, trivial⟩), W⟩
    clear S W eq_153; rintro a w_163 ⟨S, W⟩
    refine wl_pure (l' := [(0, .bool q_153), (132, .bool q_153)]) S tys tys_ok 1 (by kernel_rfl) ?_
    clear S; intro a S
    refine wpList_nil ?_
    refine then_n ?_
    replace S := S.sub (l' := [(0, .bool q_153)]) (by exact ⟨rfl, trivial⟩)
    refine wp_ret ?_
    obtain rfl := Option.some.inj h
    exact b_ret1 S rfl rfl ⟨_, rfl, RepV.mkBool, W.below⟩
theorem cb19 : callB Try.prog 19 = true := by kernel_rfl

end Go.Proofs.Ytnelgpgmggcdcaa
