/- Functions of the program, as plain data. -/
import Derived.Test.YtmcpcdmonglkjaaP4
set_option linter.unusedVariables false
set_option linter.unusedSimpArgs false
namespace Go.Proofs.Ytmcpcdmonglkjaa
open Go.RowKit

def p18_l1 (n : Nat) (x0 : Sl ((Sl (Int)) × Int × Int)) (x1 : Sl ((Sl (Int)) × Int × Int)) : Nat → (Int) → Option ((Unit) ⊕ ((Bool)))
 | 0, _ => .none
 | m + 1, c_3 => if (decide (c_3 < (lenI x0))) then ((idx x0.xs c_3).bind fun y_13 => (idx x1.xs c_3).bind fun y_19 => (p17 n y_13.1 y_19.1).bind fun t_25 => (if (!t_25) = false then (idx x0.xs c_3).bind fun y_32 => (idx x1.xs c_3).bind fun y_38 => some (y_32.2.1 != y_38.2.1) else some true).bind fun q_30 => (if q_30 = false then (idx x0.xs c_3).bind fun y_46 => (idx x1.xs c_3).bind fun y_52 => some (y_46.2.2 != y_52.2.2) else some true).bind fun q_44 => if q_44 then (some (.inr false)) else (ckI .i64 (c_3 + 1)).bind fun x_450 => p18_l1 n x0 x1 m x_450) else some (.inl ())
def p18 (n : Nat) (x0 : Sl ((Sl (Int)) × Int × Int)) (x1 : Sl ((Sl (Int)) × Int × Int)) : Option ((Bool)) :=
 if ((lenI x0) != (lenI x1)) then (some false) else (p18_l1 n x0 x1 n 0).bind fun (y_7 : (Unit) ⊕ ((Bool))) => lrK y_7 some fun (s_8 : Unit) => some true
set_option maxHeartbeats 4000000 in
set_option maxRecDepth 100000 in
/-- plugboard/plugboardlaw31.alike -/
theorem c18 (K : Nat → Prop) (n : Nat) (w : World) (x0 : Sl ((Sl (Int)) × Int × Int)) (v0 : Value) (R0 : RepV (.sl gt0) w K v0 x0) (x1 : Sl ((Sl (Int)) × Int × Int)) (v1 : Value) (R1 : RepV (.sl gt0) w K v1 x1) {r : (Bool)} (h : p18 n x0 x1 = some r) :
  Calls Try.prog 18 #[v0, v1] w (Ret1 .bool w (Kx K w.heap.size []) r) := by
 refine enter (args := [v0, v1]) Try.func18 rfl 55 rfl rfl fun a S => ?_
 have W := Wd.start w
 replace R0 := R0.arg
 replace R1 := R1.arg
 unfold p18 at h
 replace S : St 55 a [(0, v0), (1, v1)] := S
 refine wp_seq ?_
 refine wp_region_lit ?_
 refine wl_pure (l' := [(4, .bool false), (0, v0), (1, v1)]) S tys tys_ok 1 (by kernel_rfl) ?_
 clear S; intro a S
 refine wpList_nil ?_
 refine then_n ?_
 replace S := S.sub (l' := [(0, v0), (1, v1)]) (by exact ⟨rfl, rfl, trivial⟩)
 refine wp_seq ?_
 refine wp_seq ?_
 refine wp_region_lit ?_
 refine wl_pure (l' := [(6, v0), (0, v0), (1, v1)]) S tys tys_ok 1 (by kernel_rfl) ?_
 clear S; intro a S
 refine w_go S rfl (op_len (K := _) S rfl ty23 rfl rfl rfl R0 ?_)
 clear S; intro a G_1 S
 refine wl_pure (l' := [(8, v1), (7, .int .i64 (lenI x0)), (6, v0), (0, v0), (1, v1)]) S tys tys_ok 1 (by kernel_rfl) ?_
 clear S; intro a S
 refine w_go S rfl (op_len (K := _) S rfl ty23 rfl rfl rfl R1 ?_)
 clear S; intro a G_2 S
 refine wl_pureK (l' := [(10, .bool ((lenI x0) != (lenI x1))), (0, v0), (1, v1)]) S tys tys_ok 1 [10, 0, 1] (by kernel_rfl) ?_
 clear S; intro a S
 refine wpList_nil ?_
 refine then_n ?_
 refine wp_cond_split (S.eval (show ev _ _ = some (.bool ((lenI x0) != (lenI x1))) from rfl)) ?_ ?_
 ·intro hc
  rw [if_pos hc] at h
  refine wp_seq ?_
  refine wp_region_lit ?_
  refine wl_pureK (l' := [(4, .bool false)]) S tys tys_ok 1 [4] (by kernel_rfl) ?_
  clear S; intro a S
  refine wpList_nil ?_
  refine then_n ?_
  refine wp_ret ?_
  refine then_r ?_
  obtain rfl := Option.some.inj h
  exact b_ret1 S rfl rfl ⟨_, rfl, RepV.mkBool, W.below⟩
 ·intro hc
  rw [if_neg (Bool.eq_false_iff.1 hc)] at h
  refine wp_skip ?_
  refine then_n ?_
  replace S := S.sub (l' := [(0, v0), (1, v1)]) (by exact ⟨rfl, rfl, trivial⟩)
  refine wp_seq ?_
  refine wp_seq ?_
  refine wp_region_lit ?_
  refine wl_pure (l' := [(5, .int .i64 0), (0, v0), (1, v1)]) S tys tys_ok 1 (by kernel_rfl) ?_
  clear S; intro a S
  refine wpList_nil ?_
  refine then_n ?_
  obtain ⟨y_7, ey_7, h⟩ := bindS h
  refine wp_cut_ (fun a_ w_ => ∃ s_8 : Unit, y_7 = .inl s_8 ∧ (St 55 a_ [] ∧ Wd w w_ [])) ?_ ?_
  ·refine wp_block ?_
   refine wp_loop_n (fun m_ a_ w_ => ∃ (c_3 : Int) , St 55 a_ [(5, .int .i64 c_3), (0, v0), (1, v1)] ∧ Wd w w_ [] ∧ InR .i64 c_3 ∧ RepV (.sl gt0) w_ (Kx K w.heap.size []) v0 x0 ∧ RepV (.sl gt0) w_ (Kx K w.heap.size []) v1 x1 ∧ p18_l1 n x0 x1 m_ c_3 = some y_7) n ?_ ?_
   ·skip
    exact ⟨0, ⟨S.sub (by exact ⟨rfl, rfl, rfl, trivial⟩), W, (show InR .i64 0 by decide), R0, R1, ey_7⟩⟩
   ·clear S W; rintro m_9 a w_11 ⟨c_3, S, W, G_4, R0, R1, hl_10⟩
    cases m_9 with
    | zero => exact absurd hl_10 (by simp [p18_l1])
    | succ m_9 =>
     refine ⟨m_9, rfl, ?_⟩
     rw [p18_l1] at hl_10
     refine wp_seq ?_
     refine wp_seq ?_
     refine wp_region_lit ?_
     refine wl_pure (l' := [(12, v0), (11, .int .i64 c_3), (5, .int .i64 c_3), (0, v0), (1, v1)]) S tys tys_ok 2 (by kernel_rfl) ?_
     clear S; intro a S
     refine w_go S rfl (op_len (K := _) S rfl ty23 rfl rfl rfl R0 ?_)
     clear S; intro a G_12 S
     refine wl_pureK (l' := [(14, .bool (decide (c_3 < (lenI x0)))), (5, .int .i64 c_3), (0, v0), (1, v1)]) S tys tys_ok 1 [14, 5, 0, 1] (by kernel_rfl) ?_
     clear S; intro a S
     refine wpList_nil ?_
     refine then_n ?_
     refine wp_cond_split (S.eval (show ev _ _ = some (.bool (decide (c_3 < (lenI x0)))) from rfl)) ?_ ?_
     ·intro hc
      rw [if_pos hc] at hl_10
      refine wp_skip ?_
      refine then_n ?_
      replace S := S.sub (l' := [(5, .int .i64 c_3), (0, v0), (1, v1)]) (by exact ⟨rfl, rfl, rfl, trivial⟩)
      refine wp_seq ?_
      refine wp_block ?_
      refine wp_seq ?_
      obtain ⟨y_13, ey_13, hl_10⟩ := bindS hl_10
      obtain ⟨y_19, ey_19, hl_10⟩ := bindS hl_10
      obtain ⟨t_25, et_25, hl_10⟩ := bindS hl_10
      obtain ⟨q_30, eq_30, hl_10⟩ := bindS hl_10
      obtain ⟨y_32, y_38, HG_31⟩ : ∃ (y_32 : (Sl (Int)) × Int × Int) (y_38 : (Sl (Int)) × Int × Int) , ((!t_25) = false → (idx x0.xs c_3) = some y_32 ∧ (idx x1.xs c_3) = some y_38 ∧ (y_32.2.1 != y_38.2.1) = q_30) ∧ (¬ (!t_25) = false → true = q_30) := by
       by_cases hc : (!t_25) = false
       ·rw [if_pos hc] at eq_30
        obtain ⟨y_32, ey_32, eq_30⟩ := bindS eq_30
        obtain ⟨y_38, ey_38, eq_30⟩ := bindS eq_30
        exact ⟨y_32, y_38, ⟨fun _ => ⟨ey_32, ey_38, Option.some.inj eq_30⟩, fun k_ => absurd hc k_⟩⟩
       ·rw [if_neg hc] at eq_30
        exact ⟨default, default, ⟨fun k_ => absurd k_ hc, fun _ => Option.some.inj eq_30⟩⟩
      obtain ⟨q_44, eq_44, hl_10⟩ := bindS hl_10
      obtain ⟨y_46, y_52, HG_45⟩ : ∃ (y_46 : (Sl (Int)) × Int × Int) (y_52 : (Sl (Int)) × Int × Int) , (q_30 = false → (idx x0.xs c_3) = some y_46 ∧ (idx x1.xs c_3) = some y_52 ∧ (y_46.2.2 != y_52.2.2) = q_44) ∧ (¬ q_30 = false → true = q_44) := by
       by_cases hc : q_30 = false
       ·rw [if_pos hc] at eq_44
        obtain ⟨y_46, ey_46, eq_44⟩ := bindS eq_44
        obtain ⟨y_52, ey_52, eq_44⟩ := bindS eq_44
        exact ⟨y_46, y_52, ⟨fun _ => ⟨ey_46, ey_52, Option.some.inj eq_44⟩, fun k_ => absurd hc k_⟩⟩
       ·rw [if_neg hc] at eq_44
        exact ⟨default, default, ⟨fun k_ => absurd k_ hc, fun _ => Option.some.inj eq_44⟩⟩
      have hR : Rel (Kx K w.heap.size []) Bl := Bl.rel _
      refine wp_region_all hR [isRep (.sl gt0) (Kx K w.heap.size []) x0, isI .i64 c_3, isEl gt0 (Kx K w.heap.size []) y_13, isEl (.sl (.int .u8)) (Kx K w.heap.size []) y_13.1, isRep (.sl (.int .u8)) (Kx K w.heap.size []) y_13.1, isRep (.sl gt0) (Kx K w.heap.size []) x1, isI .i64 c_3, isEl gt0 (Kx K w.heap.size []) y_19, isEl (.sl (.int .u8)) (Kx K w.heap.size []) y_19.1, isRep (.sl (.int .u8)) (Kx K w.heap.size []) y_19.1, eqv (.bool t_25), eqv (.bool (!t_25)), eqv (.bool (!t_25)), cndF (!t_25) false (isRep (.sl gt0) (Kx K w.heap.size []) x0), cndF (!t_25) false (isI .i64 c_3), cndF (!t_25) false (isEl gt0 (Kx K w.heap.size []) y_32), cndF (!t_25) false (isEl (.int .u8) (Kx K w.heap.size []) y_32.2.1), cndF (!t_25) false (isI .u8 y_32.2.1), cndF (!t_25) false (isRep (.sl gt0) (Kx K w.heap.size []) x1), cndF (!t_25) false (isI .i64 c_3), cndF (!t_25) false (isEl gt0 (Kx K w.heap.size []) y_38), cndF (!t_25) false (isEl (.int .u8) (Kx K w.heap.size []) y_38.2.1), cndF (!t_25) false (isI .u8 y_38.2.1), cndF (!t_25) false (eqv (.bool (y_32.2.1 != y_38.2.1))), eqv (.bool q_30), eqv (.bool q_30), cndF q_30 false (isRep (.sl gt0) (Kx K w.heap.size []) x0), cndF q_30 false (isI .i64 c_3), cndF q_30 false (isEl gt0 (Kx K w.heap.size []) y_46), cndF q_30 false (isEl (.int .u8) (Kx K w.heap.size []) y_46.2.2), cndF q_30 false (isI .u8 y_46.2.2), cndF q_30 false (isRep (.sl gt0) (Kx K w.heap.size []) x1), cndF q_30 false (isI .i64 c_3), cndF q_30 false (isEl gt0 (Kx K w.heap.size []) y_52), cndF q_30 false (isEl (.int .u8) (Kx K w.heap.size []) y_52.2.2), cndF q_30 false (isI .u8 y_52.2.2), cndF q_30 false (eqv (.bool (y_46.2.2 != y_52.2.2))), eqv (.bool q_44)] [[], [], [(0, 17), (1, 18)], [(2, 19)], [(3, 20)], [], [], [(5, 22), (6, 23)], [(7, 24)], [(8, 25)], [(4, 21), (9, 26)], [(10, 27)], [(11, 28)], [(12, 29)], [(12, 29)], [(13, 30), (14, 31), (12, 29)], [(15, 32), (12, 29)], [(16, 33), (12, 29)], [(12, 29)], [(12, 29)], [(18, 35), (19, 36), (12, 29)], [(20, 37), (12, 29)], [(21, 38), (12, 29)], [(17, 34), (22, 39), (12, 29)], [(12, 29), (23, 40)], [(24, 41)], [(25, 42)], [(25, 42)], [(26, 43), (27, 44), (25, 42)], [(28, 45), (25, 42)], [(29, 46), (25, 42)], [(25, 42)], [(25, 42)], [(31, 48), (32, 49), (25, 42)], [(33, 50), (25, 42)], [(34, 51), (25, 42)], [(30, 47), (35, 52), (25, 42)], [(25, 42), (36, 53)]] (by kernel_rfl) (by rw [S.size]; kernel_rfl) (by kernel_rfl) (by kernel_rfl) rfl ⟨(stab_rep hR), stab_I, (stab_el hR), (stab_el hR), (stab_rep hR), (stab_rep hR), stab_I, (stab_el hR), (stab_el hR), (stab_rep hR), (stab_eqv _), (stab_eqv _), (stab_eqv _), (stab_cnd (stab_rep hR)), (stab_cnd stab_I), (stab_cnd (stab_el hR)), (stab_cnd (stab_el hR)), (stab_cnd stab_I), (stab_cnd (stab_rep hR)), (stab_cnd stab_I), (stab_cnd (stab_el hR)), (stab_cnd (stab_el hR)), (stab_cnd stab_I), (stab_cnd (stab_eqv _)), (stab_eqv _), (stab_eqv _), (stab_cnd (stab_rep hR)), (stab_cnd stab_I), (stab_cnd (stab_el hR)), (stab_cnd (stab_el hR)), (stab_cnd stab_I), (stab_cnd (stab_rep hR)), (stab_cnd stab_I), (stab_cnd (stab_el hR)), (stab_cnd (stab_el hR)), (stab_cnd stab_I), (stab_cnd (stab_eqv _)), (stab_eqv _), trivial⟩ ?_ ?_
      ·
       refine RunAll.cons (isRep (.sl gt0) (Kx K w.heap.size []) x0) [] rfl rfl ?_ ?_
       ·intro W_ hW
        have S1 := S
        replace R0 := R0.step hW
        exact RPost.one (v := v0) S1 tys tys_ok rfl (by kernel_rfl) S.defers R0 (Below.refl _ _)
       refine RunAll.cons (isI .i64 c_3) [] rfl rfl ?_ ?_
       ·intro W_ hW
        have S1 := S
        exact RPost.one (v := .int .i64 c_3) S1 tys tys_ok rfl (by kernel_rfl) S.defers ⟨rfl, G_4⟩ (Below.refl _ _)
       refine RunAll.cons (isEl gt0 (Kx K w.heap.size []) y_13) [(isRep (.sl gt0) (Kx K w.heap.size []) x0, 17), (isI .i64 c_3, 18)] rfl rfl ?_ ?_
       ·intro W_ hW
        have S1 := S
        intro v_59 hF_58; replace hF_58 : RepV _ _ _ _ _ := hF_58
        replace S1 := S1.put (by decide : 17 < 55) (v_59)
        rintro _ ⟨rfl, hF_60⟩
        replace S1 := S1.put (by decide : 18 < 55) (.int .i64 c_3)
        refine fill_nil S1 ?_; clear S1; intro a_ S1
        replace W := W.step hW
        have S0 := S.defers; replace S := S1; clear S1
        refine w_go S rfl (op_indexAddr S rfl ty23 rfl rfl rfl hF_58 rfl ey_13 ?_)
        clear S; intro a p_62 R_63 H_64 S
        refine wpList_nil ?_
        exact RPost.mk_ S rfl S0 ⟨_, rfl, R_63, H_64⟩ (Below.refl _ _)
       refine RunAll.cons (isEl (.sl (.int .u8)) (Kx K w.heap.size []) y_13.1) [(isEl gt0 (Kx K w.heap.size []) y_13, 19)] rfl rfl ?_ ?_
       ·intro W_ hW
        have S1 := S
        rintro _ ⟨p_67, rfl, R_68, H_69⟩
        replace S1 := S1.put (by decide : 19 < 55) (.pointer (some p_67))
        exact RPost.one (v := .pointer (some (p_67.add (coff gf0 0)))) S1 tys tys_ok rfl (by kernel_rfl) S.defers ⟨_, rfl, (RepAt.add 0 (RepAt.st (t := gf0) R_68)), (by simpa [Addr.add] using H_69)⟩ (Below.refl _ _)
       refine RunAll.cons (isRep (.sl (.int .u8)) (Kx K w.heap.size []) y_13.1) [(isEl (.sl (.int .u8)) (Kx K w.heap.size []) y_13.1, 20)] rfl rfl ?_ ?_
       ·intro W_ hW
        have S1 := S
        rintro _ ⟨p_72, rfl, R_73, H_74⟩
        replace S1 := S1.put (by decide : 20 < 55) (.pointer (some p_72))
        refine fill_nil S1 ?_; clear S1; intro a_ S1
        have S0 := S.defers; replace S := S1; clear S1
        refine w_go S rfl (op_load (t := (.sl (.int .u8))) (x := y_13.1) S rfl ty25 rfl rfl rfl R_73 ?_)
        clear S; intro a v_75 R_76 S
        refine wpList_nil ?_
        exact RPost.mk_ S rfl S0 R_76 (Below.refl _ _)
       refine RunAll.cons (isRep (.sl gt0) (Kx K w.heap.size []) x1) [] rfl rfl ?_ ?_
       ·intro W_ hW
        have S1 := S
        replace R1 := R1.step hW
        exact RPost.one (v := v1) S1 tys tys_ok rfl (by kernel_rfl) S.defers R1 (Below.refl _ _)
       refine RunAll.cons (isI .i64 c_3) [] rfl rfl ?_ ?_
       ·intro W_ hW
        have S1 := S
        exact RPost.one (v := .int .i64 c_3) S1 tys tys_ok rfl (by kernel_rfl) S.defers ⟨rfl, G_4⟩ (Below.refl _ _)
       refine RunAll.cons (isEl gt0 (Kx K w.heap.size []) y_19) [(isRep (.sl gt0) (Kx K w.heap.size []) x1, 22), (isI .i64 c_3, 23)] rfl rfl ?_ ?_
       ·intro W_ hW
        have S1 := S
        intro v_78 hF_77; replace hF_77 : RepV _ _ _ _ _ := hF_77
        replace S1 := S1.put (by decide : 22 < 55) (v_78)
        rintro _ ⟨rfl, hF_79⟩
        replace S1 := S1.put (by decide : 23 < 55) (.int .i64 c_3)
        refine fill_nil S1 ?_; clear S1; intro a_ S1
        replace W := W.step hW
        have S0 := S.defers; replace S := S1; clear S1
        refine w_go S rfl (op_indexAddr S rfl ty23 rfl rfl rfl hF_77 rfl ey_19 ?_)
        clear S; intro a p_81 R_82 H_83 S
        refine wpList_nil ?_
        exact RPost.mk_ S rfl S0 ⟨_, rfl, R_82, H_83⟩ (Below.refl _ _)
       refine RunAll.cons (isEl (.sl (.int .u8)) (Kx K w.heap.size []) y_19.1) [(isEl gt0 (Kx K w.heap.size []) y_19, 24)] rfl rfl ?_ ?_
       ·intro W_ hW
        have S1 := S
        rintro _ ⟨p_86, rfl, R_87, H_88⟩
        replace S1 := S1.put (by decide : 24 < 55) (.pointer (some p_86))
        exact RPost.one (v := .pointer (some (p_86.add (coff gf0 0)))) S1 tys tys_ok rfl (by kernel_rfl) S.defers ⟨_, rfl, (RepAt.add 0 (RepAt.st (t := gf0) R_87)), (by simpa [Addr.add] using H_88)⟩ (Below.refl _ _)
       refine RunAll.cons (isRep (.sl (.int .u8)) (Kx K w.heap.size []) y_19.1) [(isEl (.sl (.int .u8)) (Kx K w.heap.size []) y_19.1, 25)] rfl rfl ?_ ?_
       ·intro W_ hW
        have S1 := S
        rintro _ ⟨p_91, rfl, R_92, H_93⟩
        replace S1 := S1.put (by decide : 25 < 55) (.pointer (some p_91))
        refine fill_nil S1 ?_; clear S1; intro a_ S1
        have S0 := S.defers; replace S := S1; clear S1
        refine w_go S rfl (op_load (t := (.sl (.int .u8))) (x := y_19.1) S rfl ty25 rfl rfl rfl R_92 ?_)
        clear S; intro a v_94 R_95 S
        refine wpList_nil ?_
        exact RPost.mk_ S rfl S0 R_95 (Below.refl _ _)
       refine RunAll.cons (eqv (.bool t_25)) [(isRep (.sl (.int .u8)) (Kx K w.heap.size []) y_13.1, 21), (isRep (.sl (.int .u8)) (Kx K w.heap.size []) y_19.1, 26)] rfl rfl ?_ ?_
       ·intro W_ hW
        have S1 := S
        intro v_97 hF_96; replace hF_96 : RepV _ _ _ _ _ := hF_96
        replace S1 := S1.put (by decide : 21 < 55) (v_97)
        intro v_99 hF_98; replace hF_98 : RepV _ _ _ _ _ := hF_98
        replace S1 := S1.put (by decide : 26 < 55) (v_99)
        refine fill_nil S1 ?_; clear S1; intro a_ S1
        replace W := W.step hW
        have S0 := S.defers; replace S := S1; clear S1
        refine w_go S rfl (op_call (vs := [v_97, v_99]) S rfl cb17 rfl rfl rfl (c17 (Kx K w.heap.size []) n W_ y_13.1 _ hF_96 y_19.1 _ hF_98 et_25) ?_)
        rintro _ w_103 ⟨v_100, rfl, R_101, hb_102⟩; refine ⟨_, rfl, ?_⟩
        replace R_101 := RepV.back R_101 W
        clear S; intro a S
        obtain rfl := RepV.bool R_101
        refine wpList_nil ?_
        exact RPost.mk_ S rfl S0 rfl (hb_102)
       refine RunAll.cons (eqv (.bool (!t_25))) [(eqv (.bool t_25), 27)] rfl rfl ?_ ?_
       ·intro W_ hW
        have S1 := S
        intro v_105 hF_104; obtain rfl : .bool t_25 = v_105 := Eq.symm hF_104
        replace S1 := S1.put (by decide : 27 < 55) (.bool t_25)
        exact RPost.one (v := .bool (!t_25)) S1 tys tys_ok rfl (by kernel_rfl) S.defers rfl (Below.refl _ _)
       refine RunAll.cons (eqv (.bool (!t_25))) [(eqv (.bool (!t_25)), 28)] rfl rfl ?_ ?_
       ·intro W_ hW
        have S1 := S
        intro v_107 hF_106; obtain rfl : .bool (!t_25) = v_107 := Eq.symm hF_106
        replace S1 := S1.put (by decide : 28 < 55) (.bool (!t_25))
        exact RPost.one (v := .bool (!t_25)) S1 tys tys_ok rfl (by kernel_rfl) S.defers rfl (Below.refl _ _)
       refine RunAll.cons (cndF (!t_25) false (isRep (.sl gt0) (Kx K w.heap.size []) x0)) [(eqv (.bool (!t_25)), 29)] rfl rfl ?_ ?_
       ·intro W_ hW
        by_cases hc0 : (!t_25) = false
        ·have hl0 : (!t_25) = false := hc0
         have S1 := S
         intro v_109 hF_108; obtain rfl : .bool (!t_25) = v_109 := Eq.symm hF_108
         replace S1 := S1.put (by decide : 29 < 55) (.bool (!t_25))
         refine fill_nil S1 ?_; clear S1; intro a_ S1
         replace R0 := R0.step hW
         rw [show (!t_25) = false from hl0] at S1
         exact RPost.one (v := v0) S1 tys tys_ok rfl (by kernel_rfl) S.defers ⟨fun _ => R0, fun k_ => absurd hc0 k_⟩ (Below.refl _ _)
        ·have hl0 : (!t_25) = true := (by simpa using hc0)
         have S1 := S
         intro v_111 hF_110; obtain rfl : .bool (!t_25) = v_111 := Eq.symm hF_110
         replace S1 := S1.put (by decide : 29 < 55) (.bool (!t_25))
         refine fill_nil S1 ?_; clear S1; intro a_ S1
         rw [show (!t_25) = true from hl0] at S1
         exact RPost.one (v := undef) S1 tys tys_ok rfl (by kernel_rfl) S.defers ⟨fun k_ => absurd k_ hc0, fun _ => rfl⟩ (Below.refl _ _)
       refine RunAll.cons (cndF (!t_25) false (isI .i64 c_3)) [(eqv (.bool (!t_25)), 29)] rfl rfl ?_ ?_
       ·intro W_ hW
        by_cases hc0 : (!t_25) = false
        ·have hl0 : (!t_25) = false := hc0
         have S1 := S
         intro v_113 hF_112; obtain rfl : .bool (!t_25) = v_113 := Eq.symm hF_112
         replace S1 := S1.put (by decide : 29 < 55) (.bool (!t_25))
         refine fill_nil S1 ?_; clear S1; intro a_ S1
         rw [show (!t_25) = false from hl0] at S1
         exact RPost.one (v := .int .i64 c_3) S1 tys tys_ok rfl (by kernel_rfl) S.defers ⟨fun _ => ⟨rfl, G_4⟩, fun k_ => absurd hc0 k_⟩ (Below.refl _ _)
        ·have hl0 : (!t_25) = true := (by simpa using hc0)
         have S1 := S
         intro v_115 hF_114; obtain rfl : .bool (!t_25) = v_115 := Eq.symm hF_114
         replace S1 := S1.put (by decide : 29 < 55) (.bool (!t_25))
         refine fill_nil S1 ?_; clear S1; intro a_ S1
         rw [show (!t_25) = true from hl0] at S1
         exact RPost.one (v := undef) S1 tys tys_ok rfl (by kernel_rfl) S.defers ⟨fun k_ => absurd k_ hc0, fun _ => rfl⟩ (Below.refl _ _)
       refine RunAll.cons (cndF (!t_25) false (isEl gt0 (Kx K w.heap.size []) y_32)) [(cndF (!t_25) false (isRep (.sl gt0) (Kx K w.heap.size []) x0), 30), (cndF (!t_25) false (isI .i64 c_3), 31), (eqv (.bool (!t_25)), 29)] rfl rfl ?_ ?_
       ·intro W_ hW
        by_cases hc0 : (!t_25) = false
        ·have hl0 : (!t_25) = false := hc0
         have S1 := S
         intro v_116 hF_117
         replace hF_117 := cndF.pos hF_117 hc0
         revert hF_117
         revert v_116
         intro v_119 hF_118; replace hF_118 : RepV _ _ _ _ _ := hF_118
         replace S1 := S1.put (by decide : 30 < 55) (v_119)
         intro v_120 hF_121
         replace hF_121 := cndF.pos hF_121 hc0
         revert hF_121
         revert v_120
         rintro _ ⟨rfl, hF_122⟩
         replace S1 := S1.put (by decide : 31 < 55) (.int .i64 c_3)
         intro v_125 hF_124; obtain rfl : .bool (!t_25) = v_125 := Eq.symm hF_124
         replace S1 := S1.put (by decide : 29 < 55) (.bool (!t_25))
         refine fill_nil S1 ?_; clear S1; intro a_ S1
         replace W := W.step hW
         rw [show (!t_25) = false from hl0] at S1
         have S0 := S.defers; replace S := S1; clear S1
         obtain ⟨ey_32, ey_38, _⟩ := (HG_31).1 hc0
         refine w_go S rfl (op_indexAddr S rfl ty23 rfl rfl rfl hF_118 rfl ey_32 ?_)
         clear S; intro a p_126 R_127 H_128 S
         refine wpList_nil ?_
         exact RPost.mk_ S rfl S0 ⟨fun _ => ⟨_, rfl, R_127, H_128⟩, fun k_ => absurd hc0 k_⟩ (Below.refl _ _)
        ·have hl0 : (!t_25) = true := (by simpa using hc0)
         have S1 := S
         intro v_129 hF_130
         obtain rfl := cndF.neg hF_130 hc0
         replace S1 := S1.put (by decide : 30 < 55) (undef)
         intro v_131 hF_132
         obtain rfl := cndF.neg hF_132 hc0
         replace S1 := S1.put (by decide : 31 < 55) (undef)
         intro v_134 hF_133; obtain rfl : .bool (!t_25) = v_134 := Eq.symm hF_133
         replace S1 := S1.put (by decide : 29 < 55) (.bool (!t_25))
         refine fill_nil S1 ?_; clear S1; intro a_ S1
         rw [show (!t_25) = true from hl0] at S1
         exact RPost.one (v := undef) S1 tys tys_ok rfl (by kernel_rfl) S.defers ⟨fun k_ => absurd k_ hc0, fun _ => rfl⟩ (Below.refl _ _)
       refine RunAll.cons (cndF (!t_25) false (isEl (.int .u8) (Kx K w.heap.size []) y_32.2.1)) [(cndF (!t_25) false (isEl gt0 (Kx K w.heap.size []) y_32), 32), (eqv (.bool (!t_25)), 29)] rfl rfl ?_ ?_
       ·intro W_ hW
        by_cases hc0 : (!t_25) = false
        ·have hl0 : (!t_25) = false := hc0
         have S1 := S
         intro v_135 hF_136
         replace hF_136 := cndF.pos hF_136 hc0
         revert hF_136
         revert v_135
         rintro _ ⟨p_139, rfl, R_140, H_141⟩
         replace S1 := S1.put (by decide : 32 < 55) (.pointer (some p_139))
         intro v_143 hF_142; obtain rfl : .bool (!t_25) = v_143 := Eq.symm hF_142
         replace S1 := S1.put (by decide : 29 < 55) (.bool (!t_25))
         refine fill_nil S1 ?_; clear S1; intro a_ S1
         rw [show (!t_25) = false from hl0] at S1
         exact RPost.one (v := .pointer (some (p_139.add (coff gf0 1)))) S1 tys tys_ok rfl (by kernel_rfl) S.defers ⟨fun _ => ⟨_, rfl, (RepAt.add 1 (RepAt.st (t := gf0) R_140)), (by simpa [Addr.add] using H_141)⟩, fun k_ => absurd hc0 k_⟩ (Below.refl _ _)
        ·have hl0 : (!t_25) = true := (by simpa using hc0)
         have S1 := S
         intro v_144 hF_145
         obtain rfl := cndF.neg hF_145 hc0
         replace S1 := S1.put (by decide : 32 < 55) (undef)
         intro v_147 hF_146; obtain rfl : .bool (!t_25) = v_147 := Eq.symm hF_146
         replace S1 := S1.put (by decide : 29 < 55) (.bool (!t_25))
         refine fill_nil S1 ?_; clear S1; intro a_ S1
         rw [show (!t_25) = true from hl0] at S1
         exact RPost.one (v := undef) S1 tys tys_ok rfl (by kernel_rfl) S.defers ⟨fun k_ => absurd k_ hc0, fun _ => rfl⟩ (Below.refl _ _)
       refine RunAll.cons (cndF (!t_25) false (isI .u8 y_32.2.1)) [(cndF (!t_25) false (isEl (.int .u8) (Kx K w.heap.size []) y_32.2.1), 33), (eqv (.bool (!t_25)), 29)] rfl rfl ?_ ?_
       ·intro W_ hW
        by_cases hc0 : (!t_25) = false
        ·have hl0 : (!t_25) = false := hc0
         have S1 := S
         intro v_148 hF_149
         replace hF_149 := cndF.pos hF_149 hc0
         revert hF_149
         revert v_148
         rintro _ ⟨p_152, rfl, R_153, H_154⟩
         replace S1 := S1.put (by decide : 33 < 55) (.pointer (some p_152))
         intro v_156 hF_155; obtain rfl : .bool (!t_25) = v_156 := Eq.symm hF_155
         replace S1 := S1.put (by decide : 29 < 55) (.bool (!t_25))
         refine fill_nil S1 ?_; clear S1; intro a_ S1
         rw [show (!t_25) = false from hl0] at S1
         have S0 := S.defers; replace S := S1; clear S1
         obtain ⟨ey_32, ey_38, _⟩ := (HG_31).1 hc0
         refine w_go S rfl (op_load (t := (.int .u8)) (x := y_32.2.1) S rfl ty29 rfl rfl rfl R_153 ?_)
         clear S; intro a v_157 R_158 S
         obtain ⟨rfl, GR_158⟩ := RepV.int R_158
         refine wpList_nil ?_
         exact RPost.mk_ S rfl S0 ⟨fun _ => ⟨rfl, GR_158⟩, fun k_ => absurd hc0 k_⟩ (Below.refl _ _)
        ·have hl0 : (!t_25) = true := (by simpa using hc0)
         have S1 := S
         intro v_159 hF_160
         obtain rfl := cndF.neg hF_160 hc0
         replace S1 := S1.put (by decide : 33 < 55) (undef)
         intro v_162 hF_161; obtain rfl : .bool (!t_25) = v_162 := Eq.symm hF_161
         replace S1 := S1.put (by decide : 29 < 55) (.bool (!t_25))
         refine fill_nil S1 ?_; clear S1; intro a_ S1
         rw [show (!t_25) = true from hl0] at S1
         exact RPost.one (v := undef) S1 tys tys_ok rfl (by kernel_rfl) S.defers ⟨fun k_ => absurd k_ hc0, fun _ => rfl⟩ (Below.refl _ _)
       refine RunAll.cons (cndF (!t_25) false (isRep (.sl gt0) (Kx K w.heap.size []) x1)) [(eqv (.bool (!t_25)), 29)] rfl rfl ?_ ?_
       ·intro W_ hW
        by_cases hc0 : (!t_25) = false
        ·have hl0 : (!t_25) = false := hc0
         have S1 := S
         intro v_164 hF_163; obtain rfl : .bool (!t_25) = v_164 := Eq.symm hF_163
         replace S1 := S1.put (by decide : 29 < 55) (.bool (!t_25))
         refine fill_nil S1 ?_; clear S1; intro a_ S1
         replace R1 := R1.step hW
         rw [show (!t_25) = false from hl0] at S1
         exact RPost.one (v := v1) S1 tys tys_ok rfl (by kernel_rfl) S.defers ⟨fun _ => R1, fun k_ => absurd hc0 k_⟩ (Below.refl _ _)
        ·have hl0 : (!t_25) = true := (by simpa using hc0)
         have S1 := S
         intro v_166 hF_165; obtain rfl : .bool (!t_25) = v_166 := Eq.symm hF_165
         replace S1 := S1.put (by decide : 29 < 55) (.bool (!t_25))
         refine fill_nil S1 ?_; clear S1; intro a_ S1
         rw [show (!t_25) = true from hl0] at S1
         exact RPost.one (v := undef) S1 tys tys_ok rfl (by kernel_rfl) S.defers ⟨fun k_ => absurd k_ hc0, fun _ => rfl⟩ (Below.refl _ _)
       refine RunAll.cons (cndF (!t_25) false (isI .i64 c_3)) [(eqv (.bool (!t_25)), 29)] rfl rfl ?_ ?_
       ·intro W_ hW
        by_cases hc0 : (!t_25) = false
        ·have hl0 : (!t_25) = false := hc0
         have S1 := S
         intro v_168 hF_167; obtain rfl : .bool (!t_25) = v_168 := Eq.symm hF_167
         replace S1 := S1.put (by decide : 29 < 55) (.bool (!t_25))
         refine fill_nil S1 ?_; clear S1; intro a_ S1
         rw [show (!t_25) = false from hl0] at S1
         exact RPost.one (v := .int .i64 c_3) S1 tys tys_ok rfl (by kernel_rfl) S.defers ⟨fun _ => ⟨rfl, G_4⟩, fun k_ => absurd hc0 k_⟩ (Below.refl _ _)
        ·have hl0 : (!t_25) = true := (by simpa using hc0)
         have S1 := S
         intro v_170 hF_169; obtain rfl : .bool (!t_25) = v_170 := Eq.symm hF_169
         replace S1 := S1.put (by decide : 29 < 55) (.bool (!t_25))
         refine fill_nil S1 ?_; clear S1; intro a_ S1
         rw [show (!t_25) = true from hl0] at S1
         exact RPost.one (v := undef) S1 tys tys_ok rfl (by kernel_rfl) S.defers ⟨fun k_ => absurd k_ hc0, fun _ => rfl⟩ (Below.refl _ _)
       refine RunAll.cons (cndF (!t_25) false (isEl gt0 (Kx K w.heap.size []) y_38)) [(cndF (!t_25) false (isRep (.sl gt0) (Kx K w.heap.size []) x1), 35), (cndF (!t_25) false (isI .i64 c_3), 36), (eqv (.bool (!t_25)), 29)] rfl rfl ?_ ?_
       ·intro W_ hW
        by_cases hc0 : (!t_25) = false
        ·have hl0 : (!t_25) = false := hc0
         have S1 := S
         intro v_171 hF_172
         replace hF_172 := cndF.pos hF_172 hc0
         revert hF_172
         revert v_171
         intro v_174 hF_173; replace hF_173 : RepV _ _ _ _ _ := hF_173
         replace S1 := S1.put (by decide : 35 < 55) (v_174)
         intro v_175 hF_176
         replace hF_176 := cndF.pos hF_176 hc0
         revert hF_176
         revert v_175
         rintro _ ⟨rfl, hF_177⟩
         replace S1 := S1.put (by decide : 36 < 55) (.int .i64 c_3)
         intro v_180 hF_179; obtain rfl : .bool (!t_25) = v_180 := Eq.symm hF_179
         replace S1 := S1.put (by decide : 29 < 55) (.bool (!t_25))
         refine fill_nil S1 ?_; clear S1; intro a_ S1
         replace W := W.step hW
         rw [show (!t_25) = false from hl0] at S1
         have S0 := S.defers; replace S := S1; clear S1
         obtain ⟨ey_32, ey_38, _⟩ := (HG_31).1 hc0
         refine w_go S rfl (op_indexAddr S rfl ty23 rfl rfl rfl hF_173 rfl ey_38 ?_)
         clear S; intro a p_181 R_182 H_183 S
         refine wpList_nil ?_
         exact RPost.mk_ S rfl S0 ⟨fun _ => ⟨_, rfl, R_182, H_183⟩, fun k_ => absurd hc0 k_⟩ (Below.refl _ _)
        ·have hl0 : (!t_25) = true := (by simpa using hc0)
         have S1 := S
         intro v_184 hF_185
         obtain rfl := cndF.neg hF_185 hc0
         replace S1 := S1.put (by decide : 35 < 55) (undef)
         intro v_186 hF_187
         obtain rfl := cndF.neg hF_187 hc0
         replace S1 := S1.put (by decide : 36 < 55) (undef)
         intro v_189 hF_188; obtain rfl : .bool (!t_25) = v_189 := Eq.symm hF_188
         replace S1 := S1.put (by decide : 29 < 55) (.bool (!t_25))
         refine fill_nil S1 ?_; clear S1; intro a_ S1
         rw [show (!t_25) = true from hl0] at S1
         exact RPost.one (v := undef) S1 tys tys_ok rfl (by kernel_rfl) S.defers ⟨fun k_ => absurd k_ hc0, fun _ => rfl⟩ (Below.refl _ _)
       refine RunAll.cons (cndF (!t_25) false (isEl (.int .u8) (Kx K w.heap.size []) y_38.2.1)) [(cndF (!t_25) false (isEl gt0 (Kx K w.heap.size []) y_38), 37), (eqv (.bool (!t_25)), 29)] rfl rfl ?_ ?_
       ·intro W_ hW
        by_cases hc0 : (!t_25) = false
        ·have hl0 : (!t_25) = false := hc0
         have S1 := S
         intro v_190 hF_191
         replace hF_191 := cndF.pos hF_191 hc0
         revert hF_191
         revert v_190
         rintro _ ⟨p_194, rfl, R_195, H_196⟩
         replace S1 := S1.put (by decide : 37 < 55) (.pointer (some p_194))
         intro v_198 hF_197; obtain rfl : .bool (!t_25) = v_198 := Eq.symm hF_197
         replace S1 := S1.put (by decide : 29 < 55) (.bool (!t_25))
         refine fill_nil S1 ?_; clear S1; intro a_ S1
         rw [show (!t_25) = false from hl0] at S1
         exact RPost.one (v := .pointer (some (p_194.add (coff gf0 1)))) S1 tys tys_ok rfl (by kernel_rfl) S.defers ⟨fun _ => ⟨_, rfl, (RepAt.add 1 (RepAt.st (t := gf0) R_195)), (by simpa [Addr.add] using H_196)⟩, fun k_ => absurd hc0 k_⟩ (Below.refl _ _)
        ·have hl0 : (!t_25) = true := (by simpa using hc0)
         have S1 := S
         intro v_199 hF_200
         obtain rfl := cndF.neg hF_200 hc0
         replace S1 := S1.put (by decide : 37 < 55) (undef)
         intro v_202 hF_201; obtain rfl : .bool (!t_25) = v_202 := Eq.symm hF_201
         replace S1 := S1.put (by decide : 29 < 55) (.bool (!t_25))
         refine fill_nil S1 ?_; clear S1; intro a_ S1
         rw [show (!t_25) = true from hl0] at S1
         exact RPost.one (v := undef) S1 tys tys_ok rfl (by kernel_rfl) S.defers ⟨fun k_ => absurd k_ hc0, fun _ => rfl⟩ (Below.refl _ _)
       refine RunAll.cons (cndF (!t_25) false (isI .u8 y_38.2.1)) [(cndF (!t_25) false (isEl (.int .u8) (Kx K w.heap.size []) y_38.2.1), 38), (eqv (.bool (!t_25)), 29)] rfl rfl ?_ ?_
       ·intro W_ hW
        by_cases hc0 : (!t_25) = false
        ·have hl0 : (!t_25) = false := hc0
         have S1 := S
         intro v_203 hF_204
         replace hF_204 := cndF.pos hF_204 hc0
         revert hF_204
         revert v_203
         rintro _ ⟨p_207, rfl, R_208, H_209⟩
         replace S1 := S1.put (by decide : 38 < 55) (.pointer (some p_207))
         intro v_211 hF_210; obtain rfl : .bool (!t_25) = v_211 := Eq.symm hF_210
         replace S1 := S1.put (by decide : 29 < 55) (.bool (!t_25))
         refine fill_nil S1 ?_; clear S1; intro a_ S1
         rw [show (!t_25) = false from hl0] at S1
         have S0 := S.defers; replace S := S1; clear S1
         obtain ⟨ey_32, ey_38, _⟩ := (HG_31).1 hc0
         refine w_go S rfl (op_load (t := (.int .u8)) (x := y_38.2.1) S rfl ty29 rfl rfl rfl R_208 ?_)
         clear S; intro a v_212 R_213 S
         obtain ⟨rfl, GR_213⟩ := RepV.int R_213
         refine wpList_nil ?_
         exact RPost.mk_ S rfl S0 ⟨fun _ => ⟨rfl, GR_213⟩, fun k_ => absurd hc0 k_⟩ (Below.refl _ _)
        ·have hl0 : (!t_25) = true := (by simpa using hc0)
         have S1 := S
         intro v_214 hF_215
         obtain rfl := cndF.neg hF_215 hc0
         replace S1 := S1.put (by decide : 38 < 55) (undef)
         intro v_217 hF_216; obtain rfl : .bool (!t_25) = v_217 := Eq.symm hF_216
         replace S1 := S1.put (by decide : 29 < 55) (.bool (!t_25))
         refine fill_nil S1 ?_; clear S1; intro a_ S1
         rw [show (!t_25) = true from hl0] at S1
         exact RPost.one (v := undef) S1 tys tys_ok rfl (by kernel_rfl) S.defers ⟨fun k_ => absurd k_ hc0, fun _ => rfl⟩ (Below.refl _ _)
       refine RunAll.cons (cndF (!t_25) false (eqv (.bool (y_32.2.1 != y_38.2.1)))) [(cndF (!t_25) false (isI .u8 y_32.2.1), 34), (cndF (!t_25) false (isI .u8 y_38.2.1), 39), (eqv (.bool (!t_25)), 29)] rfl rfl ?_ ?_
       ·intro W_ hW
        by_cases hc0 : (!t_25) = false
        ·have hl0 : (!t_25) = false := hc0
         have S1 := S
         intro v_218 hF_219
         replace hF_219 := cndF.pos hF_219 hc0
         revert hF_219
         revert v_218
         rintro _ ⟨rfl, hF_220⟩
         replace S1 := S1.put (by decide : 34 < 55) (.int .u8 y_32.2.1)
         intro v_222 hF_223
         replace hF_223 := cndF.pos hF_223 hc0
         revert hF_223
         revert v_222
         rintro _ ⟨rfl, hF_224⟩
         replace S1 := S1.put (by decide : 39 < 55) (.int .u8 y_38.2.1)
         intro v_227 hF_226; obtain rfl : .bool (!t_25) = v_227 := Eq.symm hF_226
         replace S1 := S1.put (by decide : 29 < 55) (.bool (!t_25))
         refine fill_nil S1 ?_; clear S1; intro a_ S1
         rw [show (!t_25) = false from hl0] at S1
         exact RPost.one (v := .bool (y_32.2.1 != y_38.2.1)) S1 tys tys_ok rfl (by kernel_rfl) S.defers ⟨fun _ => rfl, fun k_ => absurd hc0 k_⟩ (Below.refl _ _)
        ·have hl0 : (!t_25) = true := (by simpa using hc0)
         have S1 := S
         intro v_228 hF_229
         obtain rfl := cndF.neg hF_229 hc0
         replace S1 := S1.put (by decide : 34 < 55) (undef)
         intro v_230 hF_231
         obtain rfl := cndF.neg hF_231 hc0
         replace S1 := S1.put (by decide : 39 < 55) (undef)
         intro v_233 hF_232; obtain rfl : .bool (!t_25) = v_233 := Eq.symm hF_232
         replace S1 := S1.put (by decide : 29 < 55) (.bool (!t_25))
         refine fill_nil S1 ?_; clear S1; intro a_ S1
         rw [show (!t_25) = true from hl0] at S1
         exact RPost.one (v := undef) S1 tys tys_ok rfl (by kernel_rfl) S.defers ⟨fun k_ => absurd k_ hc0, fun _ => rfl⟩ (Below.refl _ _)
       refine RunAll.cons (eqv (.bool q_30)) [(eqv (.bool (!t_25)), 29), (cndF (!t_25) false (eqv (.bool (y_32.2.1 != y_38.2.1))), 40)] rfl rfl ?_ ?_
       ·intro W_ hW
        by_cases hc0 : (!t_25) = false
        ·have hl0 : (!t_25) = false := hc0
         have S1 := S
         intro v_235 hF_234; obtain rfl : .bool (!t_25) = v_235 := Eq.symm hF_234
         replace S1 := S1.put (by decide : 29 < 55) (.bool (!t_25))
         intro v_236 hF_237
         replace hF_237 := cndF.pos hF_237 hc0
         revert hF_237
         revert v_236
         intro v_239 hF_238; obtain rfl : .bool (y_32.2.1 != y_38.2.1) = v_239 := Eq.symm hF_238
         replace S1 := S1.put (by decide : 40 < 55) (.bool (y_32.2.1 != y_38.2.1))
         refine fill_nil S1 ?_; clear S1; intro a_ S1
         rw [show (!t_25) = false from hl0] at S1
         exact RPost.one (v := .bool (y_32.2.1 != y_38.2.1)) S1 tys tys_ok rfl (by kernel_rfl) S.defers (congrArg Value.bool ((HG_31).1 hc0).2.2) (Below.refl _ _)
        ·have hl0 : (!t_25) = true := (by simpa using hc0)
         have S1 := S
         intro v_241 hF_240; obtain rfl : .bool (!t_25) = v_241 := Eq.symm hF_240
         replace S1 := S1.put (by decide : 29 < 55) (.bool (!t_25))
         intro v_242 hF_243
         obtain rfl := cndF.neg hF_243 hc0
         replace S1 := S1.put (by decide : 40 < 55) (undef)
         refine fill_nil S1 ?_; clear S1; intro a_ S1
         rw [show (!t_25) = true from hl0] at S1
         exact RPost.one (v := .bool true) S1 tys tys_ok rfl (by kernel_rfl) S.defers (congrArg Value.bool ((HG_31).2 hc0)) (Below.refl _ _)
       refine RunAll.cons (eqv (.bool q_30)) [(eqv (.bool q_30), 41)] rfl rfl ?_ ?_
       ·intro W_ hW
        have S1 := S
        intro v_245 hF_244; obtain rfl : .bool q_30 = v_245 := Eq.symm hF_244
        replace S1 := S1.put (by decide : 41 < 55) (.bool q_30)
        exact RPost.one (v := .bool q_30) S1 tys tys_ok rfl (by kernel_rfl) S.defers rfl (Below.refl _ _)
       refine RunAll.cons (cndF q_30 false (isRep (.sl gt0) (Kx K w.heap.size []) x0)) [(eqv (.bool q_30), 42)] rfl rfl ?_ ?_
       ·intro W_ hW
        by_cases hc1 : q_30 = false
        ·have hl1 : q_30 = false := hc1
         have S1 := S
         intro v_247 hF_246; obtain rfl : .bool q_30 = v_247 := Eq.symm hF_246
         replace S1 := S1.put (by decide : 42 < 55) (.bool q_30)
         refine fill_nil S1 ?_; clear S1; intro a_ S1
         replace R0 := R0.step hW
         rw [show q_30 = false from hl1] at S1
         exact RPost.one (v := v0) S1 tys tys_ok rfl (by kernel_rfl) S.defers ⟨fun _ => R0, fun k_ => absurd hc1 k_⟩ (Below.refl _ _)
        ·have hl1 : q_30 = true := (by simpa using hc1)
         have S1 := S
         intro v_249 hF_248; obtain rfl : .bool q_30 = v_249 := Eq.symm hF_248
         replace S1 := S1.put (by decide : 42 < 55) (.bool q_30)
         refine fill_nil S1 ?_; clear S1; intro a_ S1
         rw [show q_30 = true from hl1] at S1
         exact RPost.one (v := undef) S1 tys tys_ok rfl (by kernel_rfl) S.defers ⟨fun k_ => absurd k_ hc1, fun _ => rfl⟩ (Below.refl _ _)
       refine RunAll.cons (cndF q_30 false (isI .i64 c_3)) [(eqv (.bool q_30), 42)] rfl rfl ?_ ?_
       ·intro W_ hW
        by_cases hc1 : q_30 = false
        ·have hl1 : q_30 = false := hc1
         have S1 := S
         intro v_251 hF_250; obtain rfl : .bool q_30 = v_251 := Eq.symm hF_250
         replace S1 := S1.put (by decide : 42 < 55) (.bool q_30)
         refine fill_nil S1 ?_; clear S1; intro a_ S1
         rw [show q_30 = false from hl1] at S1
         exact RPost.one (v := .int .i64 c_3) S1 tys tys_ok rfl (by kernel_rfl) S.defers ⟨fun _ => ⟨rfl, G_4⟩, fun k_ => absurd hc1 k_⟩ (Below.refl _ _)
        ·have hl1 : q_30 = true := (by simpa using hc1)
         have S1 := S
         intro v_253 hF_252; obtain rfl : .bool q_30 = v_253 := Eq.symm hF_252
         replace S1 := S1.put (by decide : 42 < 55) (.bool q_30)
         refine fill_nil S1 ?_; clear S1; intro a_ S1
         rw [show q_30 = true from hl1] at S1
         exact RPost.one (v := undef) S1 tys tys_ok rfl (by kernel_rfl) S.defers ⟨fun k_ => absurd k_ hc1, fun _ => rfl⟩ (Below.refl _ _)
       refine RunAll.cons (cndF q_30 false (isEl gt0 (Kx K w.heap.size []) y_46)) [(cndF q_30 false (isRep (.sl gt0) (Kx K w.heap.size []) x0), 43), (cndF q_30 false (isI .i64 c_3), 44), (eqv (.bool q_30), 42)] rfl rfl ?_ ?_
       ·intro W_ hW
        by_cases hc1 : q_30 = false
        ·have hl1 : q_30 = false := hc1
         have S1 := S
         intro v_254 hF_255
         replace hF_255 := cndF.pos hF_255 hc1
         revert hF_255
         revert v_254
         intro v_257 hF_256; replace hF_256 : RepV _ _ _ _ _ := hF_256
         replace S1 := S1.put (by decide : 43 < 55) (v_257)
         intro v_258 hF_259
         replace hF_259 := cndF.pos hF_259 hc1
         revert hF_259
         revert v_258
         rintro _ ⟨rfl, hF_260⟩
         replace S1 := S1.put (by decide : 44 < 55) (.int .i64 c_3)
         intro v_263 hF_262; obtain rfl : .bool q_30 = v_263 := Eq.symm hF_262
         replace S1 := S1.put (by decide : 42 < 55) (.bool q_30)
         refine fill_nil S1 ?_; clear S1; intro a_ S1
         replace W := W.step hW
         rw [show q_30 = false from hl1] at S1
         have S0 := S.defers; replace S := S1; clear S1
         obtain ⟨ey_46, ey_52, _⟩ := (HG_45).1 hc1
         refine w_go S rfl (op_indexAddr S rfl ty23 rfl rfl rfl hF_256 rfl ey_46 ?_)
         clear S; intro a p_264 R_265 H_266 S
         refine wpList_nil ?_
         exact RPost.mk_ S rfl S0 ⟨fun _ => ⟨_, rfl, R_265, H_266⟩, fun k_ => absurd hc1 k_⟩ (Below.refl _ _)
        ·have hl1 : q_30 = true := (by simpa using hc1)
         have S1 := S
         intro v_267 hF_268
         obtain rfl := cndF.neg hF_268 hc1
         replace S1 := S1.put (by decide : 43 < 55) (undef)
         intro v_269 hF_270
         obtain rfl := cndF.neg hF_270 hc1
         replace S1 := S1.put (by decide : 44 < 55) (undef)
         intro v_272 hF_271; obtain rfl : .bool q_30 = v_272 := Eq.symm hF_271
         replace S1 := S1.put (by decide : 42 < 55) (.bool q_30)
         refine fill_nil S1 ?_; clear S1; intro a_ S1
         rw [show q_30 = true from hl1] at S1
         exact RPost.one (v := undef) S1 tys tys_ok rfl (by kernel_rfl) S.defers ⟨fun k_ => absurd k_ hc1, fun _ => rfl⟩ (Below.refl _ _)
       refine RunAll.cons (cndF q_30 false (isEl (.int .u8) (Kx K w.heap.size []) y_46.2.2)) [(cndF q_30 false (isEl gt0 (Kx K w.heap.size []) y_46), 45), (eqv (.bool q_30), 42)] rfl rfl ?_ ?_
       ·intro W_ hW
        by_cases hc1 : q_30 = false
        ·have hl1 : q_30 = false := hc1
         have S1 := S
         intro v_273 hF_274
         replace hF_274 := cndF.pos hF_274 hc1
         revert hF_274
         revert v_273
         rintro _ ⟨p_277, rfl, R_278, H_279⟩
         replace S1 := S1.put (by decide : 45 < 55) (.pointer (some p_277))
         intro v_281 hF_280; obtain rfl : .bool q_30 = v_281 := Eq.symm hF_280
         replace S1 := S1.put (by decide : 42 < 55) (.bool q_30)
         refine fill_nil S1 ?_; clear S1; intro a_ S1
         rw [show q_30 = false from hl1] at S1
         exact RPost.one (v := .pointer (some (p_277.add (coff gf0 2)))) S1 tys tys_ok rfl (by kernel_rfl) S.defers ⟨fun _ => ⟨_, rfl, (RepAt.add 2 (RepAt.st (t := gf0) R_278)), (by simpa [Addr.add] using H_279)⟩, fun k_ => absurd hc1 k_⟩ (Below.refl _ _)
        ·have hl1 : q_30 = true := (by simpa using hc1)
         have S1 := S
         intro v_282 hF_283
         obtain rfl := cndF.neg hF_283 hc1
         replace S1 := S1.put (by decide : 45 < 55) (undef)
         intro v_285 hF_284; obtain rfl : .bool q_30 = v_285 := Eq.symm hF_284
         replace S1 := S1.put (by decide : 42 < 55) (.bool q_30)
         refine fill_nil S1 ?_; clear S1; intro a_ S1
         rw [show q_30 = true from hl1] at S1
         exact RPost.one (v := undef) S1 tys tys_ok rfl (by kernel_rfl) S.defers ⟨fun k_ => absurd k_ hc1, fun _ => rfl⟩ (Below.refl _ _)
       refine RunAll.cons (cndF q_30 false (isI .u8 y_46.2.2)) [(cndF q_30 false (isEl (.int .u8) (Kx K w.heap.size []) y_46.2.2), 46), (eqv (.bool q_30), 42)] rfl rfl ?_ ?_
       ·intro W_ hW
        by_cases hc1 : q_30 = false
        ·have hl1 : q_30 = false := hc1
         have S1 := S
         intro v_286 hF_287
         replace hF_287 := cndF.pos hF_287 hc1
         revert hF_287
         revert v_286
         rintro _ ⟨p_290, rfl, R_291, H_292⟩
         replace S1 := S1.put (by decide : 46 < 55) (.pointer (some p_290))
         intro v_294 hF_293; obtain rfl : .bool q_30 = v_294 := Eq.symm hF_293
         replace S1 := S1.put (by decide : 42 < 55) (.bool q_30)
         refine fill_nil S1 ?_; clear S1; intro a_ S1
         rw [show q_30 = false from hl1] at S1
         have S0 := S.defers; replace S := S1; clear S1
         obtain ⟨ey_46, ey_52, _⟩ := (HG_45).1 hc1
         refine w_go S rfl (op_load (t := (.int .u8)) (x := y_46.2.2) S rfl ty5 rfl rfl rfl R_291 ?_)
         clear S; intro a v_295 R_296 S
         obtain ⟨rfl, GR_296⟩ := RepV.int R_296
         refine wpList_nil ?_
         exact RPost.mk_ S rfl S0 ⟨fun _ => ⟨rfl, GR_296⟩, fun k_ => absurd hc1 k_⟩ (Below.refl _ _)
        ·have hl1 : q_30 = true := (by simpa using hc1)
         have S1 := S
         intro v_297 hF_298
         obtain rfl := cndF.neg hF_298 hc1
         replace S1 := S1.put (by decide : 46 < 55) (undef)
         intro v_300 hF_299; obtain rfl : .bool q_30 = v_300 := Eq.symm hF_299
         replace S1 := S1.put (by decide : 42 < 55) (.bool q_30)
         refine fill_nil S1 ?_; clear S1; intro a_ S1
         rw [show q_30 = true from hl1] at S1
         exact RPost.one (v := undef) S1 tys tys_ok rfl (by kernel_rfl) S.defers ⟨fun k_ => absurd k_ hc1, fun _ => rfl⟩ (Below.refl _ _)
       refine RunAll.cons (cndF q_30 false (isRep (.sl gt0) (Kx K w.heap.size []) x1)) [(eqv (.bool q_30), 42)] rfl rfl ?_ ?_
       ·intro W_ hW
        by_cases hc1 : q_30 = false
        ·have hl1 : q_30 = false := hc1
         have S1 := S
         intro v_302 hF_301; obtain rfl : .bool q_30 = v_302 := Eq.symm hF_301
         replace S1 := S1.put (by decide : 42 < 55) (.bool q_30)
         refine fill_nil S1 ?_; clear S1; intro a_ S1
         replace R1 := R1.step hW
         rw [show q_30 = false from hl1] at S1
         exact RPost.one (v := v1) S1 tys tys_ok rfl (by kernel_rfl) S.defers ⟨fun _ => R1, fun k_ => absurd hc1 k_⟩ (Below.refl _ _)
        ·have hl1 : q_30 = true := (by simpa using hc1)
         have S1 := S
         intro v_304 hF_303; obtain rfl : .bool q_30 = v_304 := Eq.symm hF_303
         replace S1 := S1.put (by decide : 42 < 55) (.bool q_30)
         refine fill_nil S1 ?_; clear S1; intro a_ S1
         rw [show q_30 = true from hl1] at S1
         exact RPost.one (v := undef) S1 tys tys_ok rfl (by kernel_rfl) S.defers ⟨fun k_ => absurd k_ hc1, fun _ => rfl⟩ (Below.refl _ _)
       refine RunAll.cons (cndF q_30 false (isI .i64 c_3)) [(eqv (.bool q_30), 42)] rfl rfl ?_ ?_
       ·intro W_ hW
        by_cases hc1 : q_30 = false
        ·have hl1 : q_30 = false := hc1
         have S1 := S
         intro v_306 hF_305; obtain rfl : .bool q_30 = v_306 := Eq.symm hF_305
         replace S1 := S1.put (by decide : 42 < 55) (.bool q_30)
         refine fill_nil S1 ?_; clear S1; intro a_ S1
         rw [show q_30 = false from hl1] at S1
         exact RPost.one (v := .int .i64 c_3) S1 tys tys_ok rfl (by kernel_rfl) S.defers ⟨fun _ => ⟨rfl, G_4⟩, fun k_ => absurd hc1 k_⟩ (Below.refl _ _)
        ·have hl1 : q_30 = true := (by simpa using hc1)
         have S1 := S
         intro v_308 hF_307; obtain rfl : .bool q_30 = v_308 := Eq.symm hF_307
         replace S1 := S1.put (by decide : 42 < 55) (.bool q_30)
         refine fill_nil S1 ?_; clear S1; intro a_ S1
         rw [show q_30 = true from hl1] at S1
         exact RPost.one (v := undef) S1 tys tys_ok rfl (by kernel_rfl) S.defers ⟨fun k_ => absurd k_ hc1, fun _ => rfl⟩ (Below.refl _ _)
       refine RunAll.cons (cndF q_30 false (isEl gt0 (Kx K w.heap.size []) y_52)) [(cndF q_30 false (isRep (.sl gt0) (Kx K w.heap.size []) x1), 48), (cndF q_30 false (isI .i64 c_3), 49), (eqv (.bool q_30), 42)] rfl rfl ?_ ?_
       ·intro W_ hW
        by_cases hc1 : q_30 = false
        ·have hl1 : q_30 = false := hc1
         have S1 := S
         intro v_309 hF_310
         replace hF_310 := cndF.pos hF_310 hc1
         revert hF_310
         revert v_309
         intro v_312 hF_311; replace hF_311 : RepV _ _ _ _ _ := hF_311
         replace S1 := S1.put (by decide : 48 < 55) (v_312)
         intro v_313 hF_314
         replace hF_314 := cndF.pos hF_314 hc1
         revert hF_314
         revert v_313
         rintro _ ⟨rfl, hF_315⟩
         replace S1 := S1.put (by decide : 49 < 55) (.int .i64 c_3)
         intro v_318 hF_317; obtain rfl : .bool q_30 = v_318 := Eq.symm hF_317
         replace S1 := S1.put (by decide : 42 < 55) (.bool q_30)
         refine fill_nil S1 ?_; clear S1; intro a_ S1
         replace W := W.step hW
         rw [show q_30 = false from hl1] at S1
         have S0 := S.defers; replace S := S1; clear S1
         obtain ⟨ey_46, ey_52, _⟩ := (HG_45).1 hc1
         refine w_go S rfl (op_indexAddr S rfl ty23 rfl rfl rfl hF_311 rfl ey_52 ?_)
         clear S; intro a p_319 R_320 H_321 S
         refine wpList_nil ?_
         exact RPost.mk_ S rfl S0 ⟨fun _ => ⟨_, rfl, R_320, H_321⟩, fun k_ => absurd hc1 k_⟩ (Below.refl _ _)
        ·have hl1 : q_30 = true := (by simpa using hc1)
         have S1 := S
         intro v_322 hF_323
         obtain rfl := cndF.neg hF_323 hc1
         replace S1 := S1.put (by decide : 48 < 55) (undef)
         intro v_324 hF_325
         obtain rfl := cndF.neg hF_325 hc1
         replace S1 := S1.put (by decide : 49 < 55) (undef)
         intro v_327 hF_326; obtain rfl : .bool q_30 = v_327 := Eq.symm hF_326
         replace S1 := S1.put (by decide : 42 < 55) (.bool q_30)
         refine fill_nil S1 ?_; clear S1; intro a_ S1
         rw [show q_30 = true from hl1] at S1
         exact RPost.one (v := undef) S1 tys tys_ok rfl (by kernel_rfl) S.defers ⟨fun k_ => absurd k_ hc1, fun _ => rfl⟩ (Below.refl _ _)
       refine RunAll.cons (cndF q_30 false (isEl (.int .u8) (Kx K w.heap.size []) y_52.2.2)) [(cndF q_30 false (isEl gt0 (Kx K w.heap.size []) y_52), 50), (eqv (.bool q_30), 42)] rfl rfl ?_ ?_
       ·intro W_ hW
        by_cases hc1 : q_30 = false
        ·have hl1 : q_30 = false := hc1
         have S1 := S
         intro v_328 hF_329
         replace hF_329 := cndF.pos hF_329 hc1
         revert hF_329
         revert v_328
         rintro _ ⟨p_332, rfl, R_333, H_334⟩
         replace S1 := S1.put (by decide : 50 < 55) (.pointer (some p_332))
         intro v_336 hF_335; obtain rfl : .bool q_30 = v_336 := Eq.symm hF_335
         replace S1 := S1.put (by decide : 42 < 55) (.bool q_30)
         refine fill_nil S1 ?_; clear S1; intro a_ S1
         rw [show q_30 = false from hl1] at S1
         exact RPost.one (v := .pointer (some (p_332.add (coff gf0 2)))) S1 tys tys_ok rfl (by kernel_rfl) S.defers ⟨fun _ => ⟨_, rfl, (RepAt.add 2 (RepAt.st (t := gf0) R_333)), (by simpa [Addr.add] using H_334)⟩, fun k_ => absurd hc1 k_⟩ (Below.refl _ _)
        ·have hl1 : q_30 = true := (by simpa using hc1)
         have S1 := S
         intro v_337 hF_338
         obtain rfl := cndF.neg hF_338 hc1
         replace S1 := S1.put (by decide : 50 < 55) (undef)
         intro v_340 hF_339; obtain rfl : .bool q_30 = v_340 := Eq.symm hF_339
         replace S1 := S1.put (by decide : 42 < 55) (.bool q_30)
         refine fill_nil S1 ?_; clear S1; intro a_ S1
         rw [show q_30 = true from hl1] at S1
         exact RPost.one (v := undef) S1 tys tys_ok rfl (by kernel_rfl) S.defers ⟨fun k_ => absurd k_ hc1, fun _ => rfl⟩ (Below.refl _ _)
       refine RunAll.cons (cndF q_30 false (isI .u8 y_52.2.2)) [(cndF q_30 false (isEl (.int .u8) (Kx K w.heap.size []) y_52.2.2), 51), (eqv (.bool q_30), 42)] rfl rfl ?_ ?_
       ·intro W_ hW
        by_cases hc1 : q_30 = false
        ·have hl1 : q_30 = false := hc1
         have S1 := S
         intro v_341 hF_342
         replace hF_342 := cndF.pos hF_342 hc1
         revert hF_342
         revert v_341
         rintro _ ⟨p_345, rfl, R_346, H_347⟩
         replace S1 := S1.put (by decide : 51 < 55) (.pointer (some p_345))
         intro v_349 hF_348; obtain rfl : .bool q_30 = v_349 := Eq.symm hF_348
         replace S1 := S1.put (by decide : 42 < 55) (.bool q_30)
         refine fill_nil S1 ?_; clear S1; intro a_ S1
         rw [show q_30 = false from hl1] at S1
         have S0 := S.defers; replace S := S1; clear S1
         obtain ⟨ey_46, ey_52, _⟩ := (HG_45).1 hc1
         refine w_go S rfl (op_load (t := (.int .u8)) (x := y_52.2.2) S rfl ty5 rfl rfl rfl R_346 ?_)
         clear S; intro a v_350 R_351 S
         obtain ⟨rfl, GR_351⟩ := RepV.int R_351
         refine wpList_nil ?_
         exact RPost.mk_ S rfl S0 ⟨fun _ => ⟨rfl, GR_351⟩, fun k_ => absurd hc1 k_⟩ (Below.refl _ _)
        ·have hl1 : q_30 = true := (by simpa using hc1)
         have S1 := S
         intro v_352 hF_353
         obtain rfl := cndF.neg hF_353 hc1
         replace S1 := S1.put (by decide : 51 < 55) (undef)
         intro v_355 hF_354; obtain rfl : .bool q_30 = v_355 := Eq.symm hF_354
         replace S1 := S1.put (by decide : 42 < 55) (.bool q_30)
         refine fill_nil S1 ?_; clear S1; intro a_ S1
         rw [show q_30 = true from hl1] at S1
         exact RPost.one (v := undef) S1 tys tys_ok rfl (by kernel_rfl) S.defers ⟨fun k_ => absurd k_ hc1, fun _ => rfl⟩ (Below.refl _ _)
       refine RunAll.cons (cndF q_30 false (eqv (.bool (y_46.2.2 != y_52.2.2)))) [(cndF q_30 false (isI .u8 y_46.2.2), 47), (cndF q_30 false (isI .u8 y_52.2.2), 52), (eqv (.bool q_30), 42)] rfl rfl ?_ ?_
       ·intro W_ hW
        by_cases hc1 : q_30 = false
        ·have hl1 : q_30 = false := hc1
         have S1 := S
         intro v_356 hF_357
         replace hF_357 := cndF.pos hF_357 hc1
         revert hF_357
         revert v_356
         rintro _ ⟨rfl, hF_358⟩
         replace S1 := S1.put (by decide : 47 < 55) (.int .u8 y_46.2.2)
         intro v_360 hF_361
         replace hF_361 := cndF.pos hF_361 hc1
         revert hF_361
         revert v_360
         rintro _ ⟨rfl, hF_362⟩
         replace S1 := S1.put (by decide : 52 < 55) (.int .u8 y_52.2.2)
         intro v_365 hF_364; obtain rfl : .bool q_30 = v_365 := Eq.symm hF_364
         replace S1 := S1.put (by decide : 42 < 55) (.bool q_30)
         refine fill_nil S1 ?_; clear S1; intro a_ S1
         rw [show q_30 = false from hl1] at S1
         exact RPost.one (v := .bool (y_46.2.2 != y_52.2.2)) S1 tys tys_ok rfl (by kernel_rfl) S.defers ⟨fun _ => rfl, fun k_ => absurd hc1 k_⟩ (Below.refl _ _)
        ·have hl1 : q_30 = true := (by simpa using hc1)
         have S1 := S
         intro v_366 hF_367
         obtain rfl := cndF.neg hF_367 hc1
         replace S1 := S1.put (by decide : 47 < 55) (undef)
         intro v_368 hF_369
         obtain rfl := cndF.neg hF_369 hc1
         replace S1 := S1.put (by decide : 52 < 55) (undef)
         intro v_371 hF_370; obtain rfl : .bool q_30 = v_371 := Eq.symm hF_370
         replace S1 := S1.put (by decide : 42 < 55) (.bool q_30)
         refine fill_nil S1 ?_; clear S1; intro a_ S1
         rw [show q_30 = true from hl1] at S1
         exact RPost.one (v := undef) S1 tys tys_ok rfl (by kernel_rfl) S.defers ⟨fun k_ => absurd k_ hc1, fun _ => rfl⟩ (Below.refl _ _)
       refine RunAll.cons (eqv (.bool q_44)) [(eqv (.bool q_30), 42), (cndF q_30 false (eqv (.bool (y_46.2.2 != y_52.2.2))), 53)] rfl rfl ?_ ?_
       ·intro W_ hW
        by_cases hc1 : q_30 = false
        ·have hl1 : q_30 = false := hc1
         have S1 := S
         intro v_373 hF_372; obtain rfl : .bool q_30 = v_373 := Eq.symm hF_372
         replace S1 := S1.put (by decide : 42 < 55) (.bool q_30)
         intro v_374 hF_375
         replace hF_375 := cndF.pos hF_375 hc1
         revert hF_375
         revert v_374
         intro v_377 hF_376; obtain rfl : .bool (y_46.2.2 != y_52.2.2) = v_377 := Eq.symm hF_376
         replace S1 := S1.put (by decide : 53 < 55) (.bool (y_46.2.2 != y_52.2.2))
         refine fill_nil S1 ?_; clear S1; intro a_ S1
         rw [show q_30 = false from hl1] at S1
         exact RPost.one (v := .bool (y_46.2.2 != y_52.2.2)) S1 tys tys_ok rfl (by kernel_rfl) S.defers (congrArg Value.bool ((HG_45).1 hc1).2.2) (Below.refl _ _)
        ·have hl1 : q_30 = true := (by simpa using hc1)
         have S1 := S
         intro v_379 hF_378; obtain rfl : .bool q_30 = v_379 := Eq.symm hF_378
         replace S1 := S1.put (by decide : 42 < 55) (.bool q_30)
         intro v_380 hF_381
         obtain rfl := cndF.neg hF_381 hc1
         replace S1 := S1.put (by decide : 53 < 55) (undef)
         refine fill_nil S1 ?_; clear S1; intro a_ S1
         rw [show q_30 = true from hl1] at S1
         exact RPost.one (v := .bool true) S1 tys tys_ok rfl (by kernel_rfl) S.defers (congrArg Value.bool ((HG_45).2 hc1)) (Below.refl _ _)
       exact trivial
      intro w_382 hb_383
      refine EndE.some_ rfl ?_
      intro v_385 hF_384; replace hF_384 : RepV _ _ _ _ _ := hF_384
      replace S := S.put (by decide : 17 < 55) (v_385)
      refine EndE.some_ rfl ?_
      rintro _ ⟨rfl, hF_386⟩
      replace S := S.put (by decide : 18 < 55) (.int .i64 c_3)
      refine EndE.some_ rfl ?_
      rintro _ ⟨p_390, rfl, R_391, H_392⟩
      replace S := S.put (by decide : 19 < 55) (.pointer (some p_390))
      refine EndE.some_ rfl ?_
      rintro _ ⟨p_395, rfl, R_396, H_397⟩
      replace S := S.put (by decide : 20 < 55) (.pointer (some p_395))
      refine EndE.some_ rfl ?_
      intro v_399 hF_398; replace hF_398 : RepV _ _ _ _ _ := hF_398
      replace S := S.put (by decide : 21 < 55) (v_399)
      refine EndE.some_ rfl ?_
      intro v_401 hF_400; replace hF_400 : RepV _ _ _ _ _ := hF_400
      replace S := S.put (by decide : 22 < 55) (v_401)
      refine EndE.some_ rfl ?_
      rintro _ ⟨rfl, hF_402⟩
      replace S := S.put (by decide : 23 < 55) (.int .i64 c_3)
      refine EndE.some_ rfl ?_
      rintro _ ⟨p_406, rfl, R_407, H_408⟩
      replace S := S.put (by decide : 24 < 55) (.pointer (some p_406))
      refine EndE.some_ rfl ?_
      rintro _ ⟨p_411, rfl, R_412, H_413⟩
      replace S := S.put (by decide : 25 < 55) (.pointer (some p_411))
      refine EndE.some_ rfl ?_
      intro v_415 hF_414; replace hF_414 : RepV _ _ _ _ _ := hF_414
      replace S := S.put (by decide : 26 < 55) (v_415)
      refine EndE.some_ rfl ?_
      intro v_417 hF_416; obtain rfl : .bool t_25 = v_417 := Eq.symm hF_416
      replace S := S.put (by decide : 27 < 55) (.bool t_25)
      refine EndE.some_ rfl ?_
      intro v_419 hF_418; obtain rfl : .bool (!t_25) = v_419 := Eq.symm hF_418
      replace S := S.put (by decide : 28 < 55) (.bool (!t_25))
      refine EndE.some_ rfl ?_
      intro v_421 hF_420; obtain rfl : .bool (!t_25) = v_421 := Eq.symm hF_420
      replace S := S.put (by decide : 29 < 55) (.bool (!t_25))
      refine EndE.some_ rfl ?_
      intro v_422 _
      replace S := S.put (by decide : 30 < 55) (v_422)
      refine EndE.some_ rfl ?_
      intro v_423 _
      replace S := S.put (by decide : 31 < 55) (v_423)
      refine EndE.some_ rfl ?_
      intro v_424 _
      replace S := S.put (by decide : 32 < 55) (v_424)
      refine EndE.some_ rfl ?_
      intro v_425 _
      replace S := S.put (by decide : 33 < 55) (v_425)
      refine EndE.some_ rfl ?_
      intro v_426 _
      replace S := S.put (by decide : 34 < 55) (v_426)
      refine EndE.some_ rfl ?_
      intro v_427 _
      replace S := S.put (by decide : 35 < 55) (v_427)
      refine EndE.some_ rfl ?_
      intro v_428 _
      replace S := S.put (by decide : 36 < 55) (v_428)
      refine EndE.some_ rfl ?_
      intro v_429 _
      replace S := S.put (by decide : 37 < 55) (v_429)
      refine EndE.some_ rfl ?_
      intro v_430 _
      replace S := S.put (by decide : 38 < 55) (v_430)
      refine EndE.some_ rfl ?_
      intro v_431 _
      replace S := S.put (by decide : 39 < 55) (v_431)
      refine EndE.some_ rfl ?_
      intro v_432 _
      replace S := S.put (by decide : 40 < 55) (v_432)
      refine EndE.some_ rfl ?_
      intro v_434 hF_433; obtain rfl : .bool q_30 = v_434 := Eq.symm hF_433
      replace S := S.put (by decide : 41 < 55) (.bool q_30)
      refine EndE.some_ rfl ?_
      intro v_436 hF_435; obtain rfl : .bool q_30 = v_436 := Eq.symm hF_435
      replace S := S.put (by decide : 42 < 55) (.bool q_30)
      refine EndE.some_ rfl ?_
      intro v_437 _
      replace S := S.put (by decide : 43 < 55) (v_437)
      refine EndE.some_ rfl ?_
      intro v_438 _
      replace S := S.put (by decide : 44 < 55) (v_438)
      refine EndE.some_ rfl ?_
      intro v_439 _
      replace S := S.put (by decide : 45 < 55) (v_439)
      refine EndE.some_ rfl ?_
      intro v_440 _
      replace S := S.put (by decide : 46 < 55) (v_440)
      refine EndE.some_ rfl ?_
      intro v_441 _
      replace S := S.put (by decide : 47 < 55) (v_441)
      refine EndE.some_ rfl ?_
      intro v_442 _
      replace S := S.put (by decide : 48 < 55) (v_442)
      refine EndE.some_ rfl ?_
      intro v_443 _
      replace S := S.put (by decide : 49 < 55) (v_443)
      refine EndE.some_ rfl ?_
      intro v_444 _
      replace S := S.put (by decide : 50 < 55) (v_444)
      refine EndE.some_ rfl ?_
      intro v_445 _
      replace S := S.put (by decide : 51 < 55) (v_445)
      refine EndE.some_ rfl ?_
      intro v_446 _
      replace S := S.put (by decide : 52 < 55) (v_446)
      refine EndE.some_ rfl ?_
      intro v_447 _
      replace S := S.put (by decide : 53 < 55) (v_447)
      refine EndE.some_ rfl ?_
      intro v_449 hF_448; obtain rfl : .bool q_44 = v_449 := Eq.symm hF_448
      replace S := S.put (by decide : 54 < 55) (.bool q_44)
      refine endE_nil S ?_; clear S; intro a S
      replace R0 := R0.step hb_383
      replace R1 := R1.step hb_383
      replace W := W.step hb_383
      refine then_n ?_
      replace S := S.sub (l' := [(54, .bool q_44), (5, .int .i64 c_3), (0, v0), (1, v1)]) (by exact ⟨rfl, rfl, rfl, rfl, trivial⟩)
      refine wp_cond_split (S.eval (show ev _ _ = some (.bool q_44) from rfl)) ?_ ?_
      ·intro hc
       rw [if_pos hc] at hl_10
       refine wp_seq ?_
       refine wp_region_lit ?_
       refine wl_pureK (l' := [(4, .bool false)]) S tys tys_ok 1 [4] (by kernel_rfl) ?_
       clear S; intro a S
       refine wpList_nil ?_
       refine then_n ?_
       refine wp_ret ?_
       refine blk_r ?_
       refine then_r ?_
       refine then_r ?_
       refine blk_r ?_
       refine then_r ?_
       refine then_r ?_
       obtain rfl := Option.some.inj hl_10
       obtain rfl := lr_inr h
       exact b_ret1 S rfl rfl ⟨_, rfl, RepV.mkBool, W.below⟩
      ·intro hc
       rw [if_neg (Bool.eq_false_iff.1 hc)] at hl_10
       refine wp_skip ?_
       refine blk_n ?_
       refine then_n ?_
       replace S := S.sub (l' := [(5, .int .i64 c_3), (0, v0), (1, v1)]) (by exact ⟨rfl, rfl, rfl, trivial⟩)
       refine wp_region_lit ?_
       refine wl_pure (l' := [(15, .int .i64 c_3), (5, .int .i64 c_3), (0, v0), (1, v1)]) S tys tys_ok 1 (by kernel_rfl) ?_
       clear S; intro a S
       obtain ⟨x_450, ex_450, hl_10⟩ := bindS hl_10
       refine w_go S rfl (op_arith S .i64 (c_3 + 1) rfl (.inl rfl) rfl rfl rfl rfl ex_450 ?_)
       clear S; intro a S
       refine wl_pure (l' := [(5, .int .i64 x_450), (16, .int .i64 x_450), (15, .int .i64 c_3), (5, .int .i64 c_3), (0, v0), (1, v1)]) S tys tys_ok 1 (by kernel_rfl) ?_
       clear S; intro a S
       refine wpList_nil ?_
       refine then_n ?_
       exact ⟨x_450, ⟨S.sub (by exact ⟨rfl, rfl, rfl, trivial⟩), W, (ckI_some ex_450).2.1, R0, R1, hl_10⟩⟩
     ·intro hc
      rw [if_neg (Bool.eq_false_iff.1 hc)] at hl_10
      refine wp_exit ?_
      refine then_x ?_
      refine then_x ?_
      refine blk_hit ?_
      refine then_n ?_
      obtain rfl := Option.some.inj hl_10
      exact ⟨_, rfl, ⟨S.sub trivial, W⟩⟩
  clear S W; rintro a w_451 ⟨s_8, rfl, S, W⟩
  replace h := lr_inl h; try dsimp only at h
  refine then_n ?_
  refine wp_seq ?_
  refine wp_region_lit ?_
  refine wl_pure (l' := [(4, .bool true)]) S tys tys_ok 1 (by kernel_rfl) ?_
  clear S; intro a S
  refine wpList_nil ?_
  refine then_n ?_
  refine wp_ret ?_
  obtain rfl := Option.some.inj h
  exact b_ret1 S rfl rfl ⟨_, rfl, RepV.mkBool, W.below⟩
theorem cb18 : callB Try.prog 18 = true := by kernel_rfl
def p15_l1 (n : Nat) (x0 : Sl ((Sl (Int)) × Int × Int)) : Nat → (Int) → Option ((Unit) ⊕ ((Bool)))
 | 0, _ => .none
 | m + 1, c_1 => if (decide (c_1 < (lenI x0))) then ((idx x0.xs c_1).bind fun y_11 => (capO y_11.1).bind fun x_18 => (idx x0.xs c_1).bind fun y_19 => if (x_18 != (lenI y_19.1)) then (some (.inr false)) else (ckI .i64 (c_1 + 1)).bind fun x_114 => p15_l1 n x0 m x_114) else some (.inl ())
def p15 (n : Nat) (x0 : Sl ((Sl (Int)) × Int × Int)) (x1 : Sl ((Sl (Int)) × Int × Int)) : Option ((Bool)) :=
 (p15_l1 n x0 n 0).bind fun (y_5 : (Unit) ⊕ ((Bool))) =>
 lrK y_5 some fun (s_6 : Unit) =>
 (capO x0).bind fun x_117 =>
 (if (x_117 == (lenI x0)) = true then (p18 n x0 x1).bind fun t_120 => some t_120 else some false).bind fun q_119 =>
 some q_119
set_option maxHeartbeats 4000000 in
set_option maxRecDepth 100000 in
/-- plugboard/plugboardlaw31.same -/
theorem c15 (K : Nat → Prop) (n : Nat) (w : World) (x0 : Sl ((Sl (Int)) × Int × Int)) (v0 : Value) (R0 : RepV (.sl gt0) w K v0 x0) (x1 : Sl ((Sl (Int)) × Int × Int)) (v1 : Value) (R1 : RepV (.sl gt0) w K v1 x1) {r : (Bool)} (h : p15 n x0 x1 = some r) :
  Calls Try.prog 15 #[v0, v1] w (Ret1 .bool w (Kx K w.heap.size []) r) := by
 refine enter (args := [v0, v1]) Try.func15 rfl 35 rfl rfl fun a S => ?_
 have W := Wd.start w
 replace R0 := R0.arg
 replace R1 := R1.arg
 unfold p15 at h
 replace S : St 35 a [(0, v0), (1, v1)] := S
 refine wp_seq ?_
 refine wp_region_lit ?_
 refine wl_pure (l' := [(4, .bool false), (0, v0), (1, v1)]) S tys tys_ok 1 (by kernel_rfl) ?_
 clear S; intro a S
 refine wpList_nil ?_
 refine then_n ?_
 replace S := S.sub (l' := [(0, v0), (1, v1)]) (by exact ⟨rfl, rfl, trivial⟩)
 refine wp_seq ?_
 refine wp_seq ?_
 refine wp_region_lit ?_
 refine wl_pure (l' := [(5, .int .i64 0), (0, v0), (1, v1)]) S tys tys_ok 1 (by kernel_rfl) ?_
 clear S; intro a S
 refine wpList_nil ?_
 refine then_n ?_
 obtain ⟨y_5, ey_5, h⟩ := bindS h
 refine wp_cut_ (fun a_ w_ => ∃ s_6 : Unit, y_5 = .inl s_6 ∧ (St 35 a_ [(0, v0), (1, v1)] ∧ Wd w w_ [] ∧ RepV (.sl gt0) w_ (Kx K w.heap.size []) v0 x0 ∧ RepV (.sl gt0) w_ (Kx K w.heap.size []) v1 x1)) ?_ ?_
 ·refine wp_block ?_
  refine wp_loop_n (fun m_ a_ w_ => ∃ (c_1 : Int) , St 35 a_ [(5, .int .i64 c_1), (0, v0), (1, v1)] ∧ Wd w w_ [] ∧ InR .i64 c_1 ∧ RepV (.sl gt0) w_ (Kx K w.heap.size []) v0 x0 ∧ RepV (.sl gt0) w_ (Kx K w.heap.size []) v1 x1 ∧ p15_l1 n x0 m_ c_1 = some y_5) n ?_ ?_
  ·skip
   exact ⟨0, ⟨S.sub (by exact ⟨rfl, rfl, rfl, trivial⟩), W, (show InR .i64 0 by decide), R0, R1, ey_5⟩⟩
  ·clear S W; rintro m_7 a w_9 ⟨c_1, S, W, G_2, R0, R1, hl_8⟩
   cases m_7 with
   | zero => exact absurd hl_8 (by simp [p15_l1])
   | succ m_7 =>
    refine ⟨m_7, rfl, ?_⟩
    rw [p15_l1] at hl_8
    refine wp_seq ?_
    refine wp_seq ?_
    refine wp_region_lit ?_
    refine wl_pure (l' := [(7, v0), (6, .int .i64 c_1), (5, .int .i64 c_1), (0, v0), (1, v1)]) S tys tys_ok 2 (by kernel_rfl) ?_
    clear S; intro a S
    refine w_go S rfl (op_len (K := _) S rfl ty23 rfl rfl rfl R0 ?_)
    clear S; intro a G_10 S
    refine wl_pureK (l' := [(9, .bool (decide (c_1 < (lenI x0)))), (5, .int .i64 c_1), (0, v0), (1, v1)]) S tys tys_ok 1 [9, 5, 0, 1] (by kernel_rfl) ?_
    clear S; intro a S
    refine wpList_nil ?_
    refine then_n ?_
    refine wp_cond_split (S.eval (show ev _ _ = some (.bool (decide (c_1 < (lenI x0)))) from rfl)) ?_ ?_
    ·intro hc
     rw [if_pos hc] at hl_8
     refine wp_skip ?_
     refine then_n ?_
     replace S := S.sub (l' := [(5, .int .i64 c_1), (0, v0), (1, v1)]) (by exact ⟨rfl, rfl, rfl, trivial⟩)
     refine wp_seq ?_
     refine wp_block ?_
     refine wp_seq ?_
     obtain ⟨y_11, ey_11, hl_8⟩ := bindS hl_8
     obtain ⟨x_18, ex_18, hl_8⟩ := bindS hl_8
     obtain ⟨y_19, ey_19, hl_8⟩ := bindS hl_8
     have hR : Rel (Kx K w.heap.size []) Bl := Bl.rel _
     refine wp_region_all hR [isRep (.sl gt0) (Kx K w.heap.size []) x0, isI .i64 c_1, isEl gt0 (Kx K w.heap.size []) y_11, isEl (.sl (.int .u8)) (Kx K w.heap.size []) y_11.1, isRep (.sl (.int .u8)) (Kx K w.heap.size []) y_11.1, isI .i64 x_18, isRep (.sl gt0) (Kx K w.heap.size []) x0, isI .i64 c_1, isEl gt0 (Kx K w.heap.size []) y_19, isEl (.sl (.int .u8)) (Kx K w.heap.size []) y_19.1, isRep (.sl (.int .u8)) (Kx K w.heap.size []) y_19.1, isI .i64 (lenI y_19.1), eqv (.bool (x_18 != (lenI y_19.1)))] [[], [], [(0, 12), (1, 13)], [(2, 14)], [(3, 15)], [(4, 16)], [], [], [(6, 18), (7, 19)], [(8, 20)], [(9, 21)], [(10, 22)], [(5, 17), (11, 23)]] (by kernel_rfl) (by rw [S.size]; kernel_rfl) (by kernel_rfl) (by kernel_rfl) rfl ⟨(stab_rep hR), stab_I, (stab_el hR), (stab_el hR), (stab_rep hR), stab_I, (stab_rep hR), stab_I, (stab_el hR), (stab_el hR), (stab_rep hR), stab_I, (stab_eqv _), trivial⟩ ?_ ?_
     ·
      refine RunAll.cons (isRep (.sl gt0) (Kx K w.heap.size []) x0) [] rfl rfl ?_ ?_
      ·intro W_ hW
       have S1 := S
       replace R0 := R0.step hW
       exact RPost.one (v := v0) S1 tys tys_ok rfl (by kernel_rfl) S.defers R0 (Below.refl _ _)
      refine RunAll.cons (isI .i64 c_1) [] rfl rfl ?_ ?_
      ·intro W_ hW
       have S1 := S
       exact RPost.one (v := .int .i64 c_1) S1 tys tys_ok rfl (by kernel_rfl) S.defers ⟨rfl, G_2⟩ (Below.refl _ _)
      refine RunAll.cons (isEl gt0 (Kx K w.heap.size []) y_11) [(isRep (.sl gt0) (Kx K w.heap.size []) x0, 12), (isI .i64 c_1, 13)] rfl rfl ?_ ?_
      ·intro W_ hW
       have S1 := S
       intro v_27 hF_26; replace hF_26 : RepV _ _ _ _ _ := hF_26
       replace S1 := S1.put (by decide : 12 < 35) (v_27)
       rintro _ ⟨rfl, hF_28⟩
       replace S1 := S1.put (by decide : 13 < 35) (.int .i64 c_1)
       refine fill_nil S1 ?_; clear S1; intro a_ S1
       replace W := W.step hW
       have S0 := S.defers; replace S := S1; clear S1
       refine w_go S rfl (op_indexAddr S rfl ty23 rfl rfl rfl hF_26 rfl ey_11 ?_)
       clear S; intro a p_30 R_31 H_32 S
       refine wpList_nil ?_
       exact RPost.mk_ S rfl S0 ⟨_, rfl, R_31, H_32⟩ (Below.refl _ _)
      refine RunAll.cons (isEl (.sl (.int .u8)) (Kx K w.heap.size []) y_11.1) [(isEl gt0 (Kx K w.heap.size []) y_11, 14)] rfl rfl ?_ ?_
      ·intro W_ hW
       have S1 := S
       rintro _ ⟨p_35, rfl, R_36, H_37⟩
       replace S1 := S1.put (by decide : 14 < 35) (.pointer (some p_35))
       exact RPost.one (v := .pointer (some (p_35.add (coff gf0 0)))) S1 tys tys_ok rfl (by kernel_rfl) S.defers ⟨_, rfl, (RepAt.add 0 (RepAt.st (t := gf0) R_36)), (by simpa [Addr.add] using H_37)⟩ (Below.refl _ _)
      refine RunAll.cons (isRep (.sl (.int .u8)) (Kx K w.heap.size []) y_11.1) [(isEl (.sl (.int .u8)) (Kx K w.heap.size []) y_11.1, 15)] rfl rfl ?_ ?_
      ·intro W_ hW
       have S1 := S
       rintro _ ⟨p_40, rfl, R_41, H_42⟩
       replace S1 := S1.put (by decide : 15 < 35) (.pointer (some p_40))
       refine fill_nil S1 ?_; clear S1; intro a_ S1
       have S0 := S.defers; replace S := S1; clear S1
       refine w_go S rfl (op_load (t := (.sl (.int .u8))) (x := y_11.1) S rfl ty25 rfl rfl rfl R_41 ?_)
       clear S; intro a v_43 R_44 S
       refine wpList_nil ?_
       exact RPost.mk_ S rfl S0 R_44 (Below.refl _ _)
      refine RunAll.cons (isI .i64 x_18) [(isRep (.sl (.int .u8)) (Kx K w.heap.size []) y_11.1, 16)] rfl rfl ?_ ?_
      ·intro W_ hW
       have S1 := S
       intro v_46 hF_45; replace hF_45 : RepV _ _ _ _ _ := hF_45
       replace S1 := S1.put (by decide : 16 < 35) (v_46)
       refine fill_nil S1 ?_; clear S1; intro a_ S1
       replace W := W.step hW
       have S0 := S.defers; replace S := S1; clear S1
       refine w_go S rfl (op_cap (K := _) S rfl ty25 rfl rfl rfl hF_45 ex_18 ?_)
       clear S; intro a G_47 S
       refine wpList_nil ?_
       exact RPost.mk_ S rfl S0 ⟨rfl, G_47⟩ (Below.refl _ _)
      refine RunAll.cons (isRep (.sl gt0) (Kx K w.heap.size []) x0) [] rfl rfl ?_ ?_
      ·intro W_ hW
       have S1 := S
       replace R0 := R0.step hW
       exact RPost.one (v := v0) S1 tys tys_ok rfl (by kernel_rfl) S.defers R0 (Below.refl _ _)
      refine RunAll.cons (isI .i64 c_1) [] rfl rfl ?_ ?_
      ·intro W_ hW
       have S1 := S
       exact RPost.one (v := .int .i64 c_1) S1 tys tys_ok rfl (by kernel_rfl) S.defers ⟨rfl, G_2⟩ (Below.refl _ _)
      refine RunAll.cons (isEl gt0 (Kx K w.heap.size []) y_19) [(isRep (.sl gt0) (Kx K w.heap.size []) x0, 18), (isI .i64 c_1, 19)] rfl rfl ?_ ?_
      ·intro W_ hW
       have S1 := S
       intro v_49 hF_48; replace hF_48 : RepV _ _ _ _ _ := hF_48
       replace S1 := S1.put (by decide : 18 < 35) (v_49)
       rintro _ ⟨rfl, hF_50⟩
       replace S1 := S1.put (by decide : 19 < 35) (.int .i64 c_1)
       refine fill_nil S1 ?_; clear S1; intro a_ S1
       replace W := W.step hW
       have S0 := S.defers; replace S := S1; clear S1
       refine w_go S rfl (op_indexAddr S rfl ty23 rfl rfl rfl hF_48 rfl ey_19 ?_)
       clear S; intro a p_52 R_53 H_54 S
       refine wpList_nil ?_
       exact RPost.mk_ S rfl S0 ⟨_, rfl, R_53, H_54⟩ (Below.refl _ _)
      refine RunAll.cons (isEl (.sl (.int .u8)) (Kx K w.heap.size []) y_19.1) [(isEl gt0 (Kx K w.heap.size []) y_19, 20)] rfl rfl ?_ ?_
      ·intro W_ hW
       have S1 := S
       rintro _ ⟨p_57, rfl, R_58, H_59⟩
       replace S1 := S1.put (by decide : 20 < 35) (.pointer (some p_57))
       exact RPost.one (v := .pointer (some (p_57.add (coff gf0 0)))) S1 tys tys_ok rfl (by kernel_rfl) S.defers ⟨_, rfl, (RepAt.add 0 (RepAt.st (t := gf0) R_58)), (by simpa [Addr.add] using H_59)⟩ (Below.refl _ _)
      refine RunAll.cons (isRep (.sl (.int .u8)) (Kx K w.heap.size []) y_19.1) [(isEl (.sl (.int .u8)) (Kx K w.heap.size []) y_19.1, 21)] rfl rfl ?_ ?_
      ·intro W_ hW
       have S1 := S
       rintro _ ⟨p_62, rfl, R_63, H_64⟩
       replace S1 := S1.put (by decide : 21 < 35) (.pointer (some p_62))
       refine fill_nil S1 ?_; clear S1; intro a_ S1
       have S0 := S.defers; replace S := S1; clear S1
       refine w_go S rfl (op_load (t := (.sl (.int .u8))) (x := y_19.1) S rfl ty25 rfl rfl rfl R_63 ?_)
       clear S; intro a v_65 R_66 S
       refine wpList_nil ?_
       exact RPost.mk_ S rfl S0 R_66 (Below.refl _ _)
      refine RunAll.cons (isI .i64 (lenI y_19.1)) [(isRep (.sl (.int .u8)) (Kx K w.heap.size []) y_19.1, 22)] rfl rfl ?_ ?_
      ·intro W_ hW
       have S1 := S
       intro v_68 hF_67; replace hF_67 : RepV _ _ _ _ _ := hF_67
       replace S1 := S1.put (by decide : 22 < 35) (v_68)
       refine fill_nil S1 ?_; clear S1; intro a_ S1
       replace W := W.step hW
       have S0 := S.defers; replace S := S1; clear S1
       refine w_go S rfl (op_len (K := _) S rfl ty25 rfl rfl rfl hF_67 ?_)
       clear S; intro a G_69 S
       refine wpList_nil ?_
       exact RPost.mk_ S rfl S0 ⟨rfl, G_69⟩ (Below.refl _ _)
      refine RunAll.cons (eqv (.bool (x_18 != (lenI y_19.1)))) [(isI .i64 x_18, 17), (isI .i64 (lenI y_19.1), 23)] rfl rfl ?_ ?_
      ·intro W_ hW
       have S1 := S
       rintro _ ⟨rfl, hF_70⟩
       replace S1 := S1.put (by decide : 17 < 35) (.int .i64 x_18)
       rintro _ ⟨rfl, hF_72⟩
       replace S1 := S1.put (by decide : 23 < 35) (.int .i64 (lenI y_19.1))
       exact RPost.one (v := .bool (x_18 != (lenI y_19.1))) S1 tys tys_ok rfl (by kernel_rfl) S.defers rfl (Below.refl _ _)
      exact trivial
     intro w_74 hb_75
     refine EndE.some_ rfl ?_
     intro v_77 hF_76; replace hF_76 : RepV _ _ _ _ _ := hF_76
     replace S := S.put (by decide : 12 < 35) (v_77)
     refine EndE.some_ rfl ?_
     rintro _ ⟨rfl, hF_78⟩
     replace S := S.put (by decide : 13 < 35) (.int .i64 c_1)
     refine EndE.some_ rfl ?_
     rintro _ ⟨p_82, rfl, R_83, H_84⟩
     replace S := S.put (by decide : 14 < 35) (.pointer (some p_82))
     refine EndE.some_ rfl ?_
     rintro _ ⟨p_87, rfl, R_88, H_89⟩
     replace S := S.put (by decide : 15 < 35) (.pointer (some p_87))
     refine EndE.some_ rfl ?_
     intro v_91 hF_90; replace hF_90 : RepV _ _ _ _ _ := hF_90
     replace S := S.put (by decide : 16 < 35) (v_91)
     refine EndE.some_ rfl ?_
     rintro _ ⟨rfl, hF_92⟩
     replace S := S.put (by decide : 17 < 35) (.int .i64 x_18)
     refine EndE.some_ rfl ?_
     intro v_95 hF_94; replace hF_94 : RepV _ _ _ _ _ := hF_94
     replace S := S.put (by decide : 18 < 35) (v_95)
     refine EndE.some_ rfl ?_
     rintro _ ⟨rfl, hF_96⟩
     replace S := S.put (by decide : 19 < 35) (.int .i64 c_1)
     refine EndE.some_ rfl ?_
     rintro _ ⟨p_100, rfl, R_101, H_102⟩
     replace S := S.put (by decide : 20 < 35) (.pointer (some p_100))
     refine EndE.some_ rfl ?_
     rintro _ ⟨p_105, rfl, R_106, H_107⟩
     replace S := S.put (by decide : 21 < 35) (.pointer (some p_105))
     refine EndE.some_ rfl ?_
     intro v_109 hF_108; replace hF_108 : RepV _ _ _ _ _ := hF_108
     replace S := S.put (by decide : 22 < 35) (v_109)
     refine EndE.some_ rfl ?_
     rintro _ ⟨rfl, hF_110⟩
     replace S := S.put (by decide : 23 < 35) (.int .i64 (lenI y_19.1))
     refine EndE.some_ rfl ?_
     intro v_113 hF_112; obtain rfl : .bool (x_18 != (lenI y_19.1)) = v_113 := Eq.symm hF_112
     replace S := S.put (by decide : 24 < 35) (.bool (x_18 != (lenI y_19.1)))
     refine endE_nil S ?_; clear S; intro a S
     replace R0 := R0.step hb_75
     replace R1 := R1.step hb_75
     replace W := W.step hb_75
     refine then_n ?_
     replace S := S.sub (l' := [(24, .bool (x_18 != (lenI y_19.1))), (5, .int .i64 c_1), (0, v0), (1, v1)]) (by exact ⟨rfl, rfl, rfl, rfl, trivial⟩)
     refine wp_cond_split (S.eval (show ev _ _ = some (.bool (x_18 != (lenI y_19.1))) from rfl)) ?_ ?_
     ·intro hc
      rw [if_pos hc] at hl_8
      refine wp_seq ?_
      refine wp_region_lit ?_
      refine wl_pureK (l' := [(4, .bool false)]) S tys tys_ok 1 [4] (by kernel_rfl) ?_
      clear S; intro a S
      refine wpList_nil ?_
      refine then_n ?_
      refine wp_ret ?_
      refine blk_r ?_
      refine then_r ?_
      refine then_r ?_
      refine blk_r ?_
      refine then_r ?_
      refine then_r ?_
      obtain rfl := Option.some.inj hl_8
      obtain rfl := lr_inr h
      exact b_ret1 S rfl rfl ⟨_, rfl, RepV.mkBool, W.below⟩
     ·intro hc
      rw [if_neg (Bool.eq_false_iff.1 hc)] at hl_8
      refine wp_skip ?_
      refine blk_n ?_
      refine then_n ?_
      replace S := S.sub (l' := [(5, .int .i64 c_1), (0, v0), (1, v1)]) (by exact ⟨rfl, rfl, rfl, trivial⟩)
      refine wp_region_lit ?_
      refine wl_pure (l' := [(10, .int .i64 c_1), (5, .int .i64 c_1), (0, v0), (1, v1)]) S tys tys_ok 1 (by kernel_rfl) ?_
      clear S; intro a S
      obtain ⟨x_114, ex_114, hl_8⟩ := bindS hl_8
      refine w_go S rfl (op_arith S .i64 (c_1 + 1) rfl (.inl rfl) rfl rfl rfl rfl ex_114 ?_)
      clear S; intro a S
      refine wl_pure (l' := [(5, .int .i64 x_114), (11, .int .i64 x_114), (10, .int .i64 c_1), (5, .int .i64 c_1), (0, v0), (1, v1)]) S tys tys_ok 1 (by kernel_rfl) ?_
      clear S; intro a S
      refine wpList_nil ?_
      refine then_n ?_
      exact ⟨x_114, ⟨S.sub (by exact ⟨rfl, rfl, rfl, trivial⟩), W, (ckI_some ex_114).2.1, R0, R1, hl_8⟩⟩
    ·intro hc
     rw [if_neg (Bool.eq_false_iff.1 hc)] at hl_8
     refine wp_exit ?_
     refine then_x ?_
     refine then_x ?_
     refine blk_hit ?_
     refine then_n ?_
     obtain rfl := Option.some.inj hl_8
     exact ⟨_, rfl, ⟨S.sub (by exact ⟨rfl, rfl, trivial⟩), W, R0, R1⟩⟩
 clear S W; rintro a w_115 ⟨s_6, rfl, S, W, R0, R1⟩
 replace h := lr_inl h; try dsimp only at h
 refine then_n ?_
 refine wp_seq ?_
 refine wp_region_lit ?_
 refine wl_pure (l' := [(25, v0), (0, v0), (1, v1)]) S tys tys_ok 1 (by kernel_rfl) ?_
 clear S; intro a S
 obtain ⟨x_117, ex_117, h⟩ := bindS h
 refine w_go S rfl (op_cap (K := _) S rfl ty23 rfl rfl rfl R0 ex_117 ?_)
 clear S; intro a G_116 S
 refine wl_pure (l' := [(27, v0), (26, .int .i64 x_117), (25, v0), (0, v0), (1, v1)]) S tys tys_ok 1 (by kernel_rfl) ?_
 clear S; intro a S
 refine w_go S rfl (op_len (K := _) S rfl ty23 rfl rfl rfl R0 ?_)
 clear S; intro a G_118 S
 refine wl_pureK (l' := [(30, .bool (x_117 == (lenI x0))), (0, v0), (1, v1)]) S tys tys_ok 2 [30, 0, 1] (by kernel_rfl) ?_
 clear S; intro a S
 obtain ⟨q_119, eq_119, h⟩ := bindS h
 refine seg 4 (fun a_ w_ => St 35 a_ [(34, .bool q_119)] ∧ Wd w w_ []) ?_ ?_
 ·by_cases hc : (x_117 == (lenI x0)) = true
  ·rw [if_pos hc] at eq_119; rw [hc] at S
   refine wl_pure (l' := [(32, v1), (31, v0), (30, .bool true), (0, v0), (1, v1)]) S tys tys_ok 2 (by kernel_rfl) ?_
   clear S; intro a S
   obtain ⟨t_120, et_120, eq_119⟩ := bindS eq_119
   refine w_go S rfl (op_call (vs := [v0, v1]) S rfl cb18 rfl rfl rfl (c18 (Kx K w.heap.size []) n w_115 x0 _ R0 x1 _ R1 et_120) ?_)
   rintro _ w_124 ⟨v_121, rfl, R_122, hb_123⟩; refine ⟨_, rfl, ?_⟩
   replace R_122 := RepV.back R_122 W
   clear S; intro a S
   replace R0 := R0.step hb_123
   replace R1 := R1.step hb_123
   replace W := W.step hb_123
   obtain rfl := RepV.bool R_122
   refine wl_pureK (l' := [(34, .bool t_120)]) S tys tys_ok 1 [34] (by kernel_rfl) ?_
   clear S; intro a S
   obtain rfl := Option.some.inj eq_119
   exact ⟨S.sub (by exact ⟨rfl, trivial⟩), W⟩
  ·rw [if_neg hc] at eq_119; rw [show (x_117 == (lenI x0)) = false from Bool.eq_false_iff.2 hc] at S
   refine wl_pureK (l' := [(34, .bool false)]) S tys tys_ok 4 [34] (by kernel_rfl) ?_
   clear S; intro a S
   obtain rfl := Option.some.inj eq_119
   exact ⟨S.sub (by exact ⟨rfl, trivial⟩), W⟩
 clear S W eq_119; rintro a w_125 ⟨S, W⟩
 refine wl_pure (l' := [(4, .bool q_119), (34, .bool q_119)]) S tys tys_ok 1 (by kernel_rfl) ?_
 clear S; intro a S
 refine wpList_nil ?_
 refine then_n ?_
 replace S := S.sub (l' := [(4, .bool q_119)]) (by exact ⟨rfl, trivial⟩)
 refine wp_ret ?_
 obtain rfl := Option.some.inj h
 exact b_ret1 S rfl rfl ⟨_, rfl, RepV.mkBool, W.below⟩
theorem cb15 : callB Try.prog 15 = true := by kernel_rfl

end Go.Proofs.Ytmcpcdmonglkjaa
