/- Functions of the program, as plain data. -/
import Derived.Test.YtflieonbbggmhaaP3
set_option linter.unusedVariables false
set_option linter.unusedSimpArgs false
namespace Go.Proofs.Ytflieonbbggmhaa
open Go.RowKit

def p3_l2 (n : Nat) (c_9 : Sl ((Sl (Int)) × Bool × Bool × Bool × Int)) (j_46 : (Sl ((Sl (Int)) × Bool × Bool × Bool × Int))) : Nat → (Int) → (List (Bool)) → Option ((List (Bool)))
 | 0, _, _ => .none
 | m + 1, c_56, c_58 => if (decide (c_56 < (lenI j_46))) then ((idx j_46.xs c_56).bind fun y_73 => (p10 n c_9 y_73.1).bind fun t_79 => (if (decide (t_79 ≥ 0)) = true then (idx c_9.xs t_79).bind fun y_85 => some y_85.2.2.2.1 else some false).bind fun q_84 => (idx c_58 c_56).bind fun y_91 => (ckI .i64 (c_56 + 1)).bind fun x_99 => p3_l2 n c_9 j_46 m x_99 (c_58.set c_56.toNat q_84)) else some c_58
def p3_l4 (n : Nat) (j_46 : (Sl ((Sl (Int)) × Bool × Bool × Bool × Int))) (c_103 : List (Bool)) (t_125 : (Int)) (y_291 : (Sl (Int)) × Bool) : Nat → (Int) → Option ((Unit) ⊕ ((Bool)))
 | 0, _ => .none
 | m + 1, c_305 => if (decide (c_305 < (lenI j_46))) then ((idx (c_103.set t_125.toNat (!y_291.2)) t_125).bind fun y_315 => (if y_315 = true then (idx (c_103.set t_125.toNat (!y_291.2)) c_305).bind fun y_323 => some (!y_323) else some false).bind fun q_321 => (if q_321 = true then (idx j_46.xs t_125).bind fun y_331 => (idx j_46.xs c_305).bind fun y_337 => (p11 n y_331.1 y_337.1).bind fun t_343 => some t_343 else some false).bind fun q_329 => (if q_329 = false then (idx (c_103.set t_125.toNat (!y_291.2)) c_305).bind fun y_350 => (if y_350 = true then (idx (c_103.set t_125.toNat (!y_291.2)) t_125).bind fun y_358 => some (!y_358) else some false).bind fun q_356 => (if q_356 = true then (idx j_46.xs c_305).bind fun y_366 => (idx j_46.xs t_125).bind fun y_372 => (p11 n y_366.1 y_372.1).bind fun t_378 => some t_378 else some false).bind fun q_364 => some q_364 else some true).bind fun q_348 => if q_348 then (some (.inr false)) else (ckI .i64 (c_305 + 1)).bind fun x_1096 => p3_l4 n j_46 c_103 t_125 y_291 m x_1096) else some (.inl ())
def p3_l3 (n : Nat) (t_29 : (Sl ((Sl (Int)) × Bool × Bool × Bool × Int)) × (Sl ((Sl (Int)) × Bool)) × (Int)) (j_46 : (Sl ((Sl (Int)) × Bool × Bool × Bool × Int))) : Nat → (Int) → (List (Bool)) → Option (((List (Bool))) ⊕ ((Bool)))
 | 0, _, _ => .none
 | m + 1, c_101, c_103 => if (decide (c_101 < (lenI t_29.2.1))) then ((idx t_29.2.1.xs c_101).bind fun y_119 => (p10 n j_46 y_119.1).bind fun t_125 => (if (decide (t_125 < 0)) = false then (idx c_103 t_125).bind fun y_132 => (idx t_29.2.1.xs c_101).bind fun y_138 => some (!(y_132 == y_138.2)) else some true).bind fun q_130 => if q_130 then (some (.inr false)) else (idx t_29.2.1.xs c_101).bind fun y_291 => (idx c_103 t_125).bind fun y_297 => (p3_l4 n j_46 c_103 t_125 y_291 n 0).bind fun (y_309 : (Unit) ⊕ ((Bool))) => lrK y_309 (fun r => some (.inr r)) fun (s_310 : Unit) => (ckI .i64 (c_101 + 1)).bind fun x_1098 => p3_l3 n t_29 j_46 m x_1098 (c_103.set t_125.toNat (!y_291.2))) else some (.inl c_103)
def p3_l5 (n : Nat) (t_29 : (Sl ((Sl (Int)) × Bool × Bool × Bool × Int)) × (Sl ((Sl (Int)) × Bool)) × (Int)) (j_46 : (Sl ((Sl (Int)) × Bool × Bool × Bool × Int))) (s_112 : (List (Bool))) : Nat → (Int) → Option ((Unit) ⊕ ((Bool)))
 | 0, _ => .none
 | m + 1, c_1100 => if (decide (c_1100 < (lenI t_29.1))) then ((idx t_29.1.xs c_1100).bind fun y_1110 => (p10 n j_46 y_1110.1).bind fun t_1116 => (if (decide (t_1116 < 0)) = false then (idx t_29.1.xs c_1100).bind fun y_1123 => (idx s_112 t_1116).bind fun y_1129 => some (!(y_1123.2.2.2.1 == y_1129)) else some true).bind fun q_1121 => (if q_1121 = false then (idx t_29.1.xs c_1100).bind fun y_1137 => (if y_1137.2.1 = true then (idx t_29.1.xs c_1100).bind fun y_1145 => some y_1145.2.2.2.1 else some false).bind fun q_1143 => some q_1143 else some true).bind fun q_1135 => if q_1135 then (some (.inr false)) else (ckI .i64 (c_1100 + 1)).bind fun x_1508 => p3_l5 n t_29 j_46 s_112 m x_1508) else some (.inl ())
def p3_l1 (n : Nat) (x0 : Sl (Int × Int × Bool × Int)) : Nat → (Int) → (Sl ((Sl (Int)) × Bool × Bool × Bool × Int)) → Option ((Unit) ⊕ ((Bool)))
 | 0, _, _ => .none
 | m + 1, c_7, c_9 => if (decide (c_7 < (lenI x0))) then ((idx x0.xs c_7).bind fun y_23 => (p9 n c_9 y_23).bind fun t_29 => if (t_29.2.2 != 0) then ((ckI .i64 (c_7 + 1)).bind fun x_38 => p3_l1 n x0 m x_38 c_9) else (idx x0.xs c_7).bind fun y_39 => (remI .u8 y_39.1 8).bind fun x_45 => (if (decide (x_45 < 2)) then (some t_29.1) else some c_9).bind fun (j_46 : (Sl ((Sl (Int)) × Bool × Bool × Bool × Int))) => (mkI (lenI j_46) (lenI j_46)).bind fun m_51 => (p3_l2 n c_9 j_46 n 0 (List.replicate m_51.1 (false : Bool))).bind fun (y_66 : (List (Bool))) => (p3_l3 n t_29 j_46 n 0 y_66).bind fun (y_111 : ((List (Bool))) ⊕ ((Bool))) => lrK y_111 (fun r => some (.inr r)) fun (s_112 : (List (Bool))) => (p3_l5 n t_29 j_46 s_112 n 0).bind fun (y_1104 : (Unit) ⊕ ((Bool))) => lrK y_1104 (fun r => some (.inr r)) fun (s_1105 : Unit) => (ckI .i64 (c_7 + 1)).bind fun x_1510 => p3_l1 n x0 m x_1510 t_29.1) else some (.inl ())
def p3 (n : Nat) (x0 : Sl (Int × Int × Bool × Int)) : Option ((Bool)) :=
 if (decide ((lenI x0) > 60)) then ((p8 n).bind fun t_2 => some t_2) else (p3_l1 n x0 n 0 (⟨[], some 0⟩)).bind fun (y_17 : (Unit) ⊕ ((Bool))) => lrK y_17 some fun (s_18 : Unit) => (p8 n).bind fun t_1512 => some t_1512
set_option maxHeartbeats 4000000 in
set_option maxRecDepth 100000 in
/-- plugboard/plugboardlaw32.SuspendsAwake -/
theorem c3 (K : Nat → Prop) (n : Nat) (w : World) (x0 : Sl (Int × Int × Bool × Int)) (v0 : Value) (R0 : RepV (.sl gt1) w K v0 x0) {r : (Bool)} (h : p3 n x0 = some r) :
  Calls Try.prog 3 #[v0] w (Ret1 .bool w (Kx K w.heap.size []) r) := by
 refine enter (args := [v0]) Try.func3 rfl 211 rfl rfl fun a S => ?_
 have W := Wd.start w
 replace R0 := R0.arg
 unfold p3 at h
 replace S : St 211 a [(0, v0)] := S
 refine wp_seq ?_
 refine wp_region_lit ?_
 refine wl_pure (l' := [(2, .bool false), (0, v0)]) S tys tys_ok 1 (by kernel_rfl) ?_
 clear S; intro a S
 refine wpList_nil ?_
 refine then_n ?_
 replace S := S.sub (l' := [(0, v0)]) (by exact ⟨rfl, trivial⟩)
 refine wp_seq ?_
 refine wp_seq ?_
 refine wp_region_lit ?_
 refine wl_pure (l' := [(17, v0), (0, v0)]) S tys tys_ok 1 (by kernel_rfl) ?_
 clear S; intro a S
 refine w_go S rfl (op_len (K := _) S rfl ty22 rfl rfl rfl R0 ?_)
 clear S; intro a G_1 S
 refine wl_pure (l' := [(19, .bool (decide ((lenI x0) > 60))), (18, .int .i64 (lenI x0)), (17, v0), (0, v0)]) S tys tys_ok 1 (by kernel_rfl) ?_
 clear S; intro a S
 refine wpList_nil ?_
 refine then_n ?_
 replace S := S.sub (l' := [(19, .bool (decide ((lenI x0) > 60))), (0, v0)]) (by exact ⟨rfl, rfl, trivial⟩)
 refine wp_cond_split (S.eval (show ev _ _ = some (.bool (decide ((lenI x0) > 60))) from rfl)) ?_ ?_
 ·intro hc
  rw [if_pos hc] at h
  refine wp_seq ?_
  refine wp_region_lit ?_
  obtain ⟨t_2, et_2, h⟩ := bindS h
  refine w_go S rfl (op_call (vs := []) S rfl cb8 rfl rfl rfl (c8 (Kx K w.heap.size []) n w  et_2) ?_)
  rintro _ w_6 ⟨v_3, rfl, R_4, hb_5⟩; refine ⟨_, rfl, ?_⟩
  replace R_4 := RepV.back R_4 W
  clear S; intro a S
  replace R0 := R0.step hb_5
  replace W := W.step hb_5
  obtain rfl := RepV.bool R_4
  refine wl_pureK (l' := [(2, .bool t_2)]) S tys tys_ok 1 [2] (by kernel_rfl) ?_
  clear S; intro a S
  refine wpList_nil ?_
  refine then_n ?_
  refine wp_ret ?_
  refine then_r ?_
  obtain rfl := Option.some.inj h
  exact b_ret1 S rfl rfl ⟨_, rfl, RepV.mkBool, W.below⟩
 ·intro hc
  rw [if_neg (Bool.eq_false_iff.1 hc)] at h
  refine wp_skip ?_
  refine then_n ?_
  replace S := S.sub (l' := [(0, v0)]) (by exact ⟨rfl, trivial⟩)
  refine wp_seq ?_
  refine wp_region_lit ?_
  refine wl_pure (l' := [(3, .slice .none 0 0), (0, v0)]) S tys tys_ok 1 (by kernel_rfl) ?_
  clear S; intro a S
  refine wpList_nil ?_
  refine then_n ?_
  refine wp_seq ?_
  refine wp_seq ?_
  refine wp_region_lit ?_
  refine wl_pure (l' := [(4, .int .i64 0), (3, .slice .none 0 0), (0, v0)]) S tys tys_ok 1 (by kernel_rfl) ?_
  clear S; intro a S
  refine wpList_nil ?_
  refine then_n ?_
  obtain ⟨y_17, ey_17, h⟩ := bindS h
  refine wp_cut_ (fun a_ w_ => ∃ s_18 : Unit, y_17 = .inl s_18 ∧ (St 211 a_ [] ∧ Wd w w_ [])) ?_ ?_
  ·refine wp_block ?_
   refine wp_loop_n (fun m_ a_ w_ => ∃ (c_7 : Int) (c_9 : Sl ((Sl (Int)) × Bool × Bool × Bool × Int)) , ∃ (v_10 : Value), St 211 a_ [(4, .int .i64 c_7), (3, v_10), (0, v0)] ∧ Wd w w_ [] ∧ InR .i64 c_7 ∧ RepV (.sl gt2) w_ (Kx K w.heap.size []) v_10 c_9 ∧ RepV (.sl gt1) w_ (Kx K w.heap.size []) v0 x0 ∧ p3_l1 n x0 m_ c_7 c_9 = some y_17) n ?_ ?_
   ·skip
    exact ⟨0, ⟨[], some 0⟩, ⟨.slice .none 0 0, S.sub (by exact ⟨rfl, rfl, rfl, trivial⟩), W, (by decide), RepV.nil, R0, ey_17⟩⟩
   ·clear S W; rintro m_19 a w_21 ⟨c_7, c_9, v_10, S, W, G_8, R_11, R0, hl_20⟩
    cases m_19 with
    | zero => exact absurd hl_20 (by simp [p3_l1])
    | succ m_19 =>
     refine ⟨m_19, rfl, ?_⟩
     rw [p3_l1] at hl_20
     refine wp_seq ?_
     refine wp_seq ?_
     refine wp_region_lit ?_
     refine wl_pure (l' := [(22, v0), (21, .int .i64 c_7), (4, .int .i64 c_7), (3, v_10), (0, v0)]) S tys tys_ok 2 (by kernel_rfl) ?_
     clear S; intro a S
     refine w_go S rfl (op_len (K := _) S rfl ty22 rfl rfl rfl R0 ?_)
     clear S; intro a G_22 S
     refine wl_pureK (l' := [(24, .bool (decide (c_7 < (lenI x0)))), (4, .int .i64 c_7), (3, v_10), (0, v0)]) S tys tys_ok 1 [24, 4, 3, 0] (by kernel_rfl) ?_
     clear S; intro a S
     refine wpList_nil ?_
     refine then_n ?_
     refine wp_cond_split (S.eval (show ev _ _ = some (.bool (decide (c_7 < (lenI x0)))) from rfl)) ?_ ?_
     ·intro hc
      rw [if_pos hc] at hl_20
      refine wp_skip ?_
      refine then_n ?_
      replace S := S.sub (l' := [(4, .int .i64 c_7), (3, v_10), (0, v0)]) (by exact ⟨rfl, rfl, rfl, trivial⟩)
      refine wp_seq ?_
      refine wp_block ?_
      refine wp_seq ?_
      refine wp_region_lit ?_
      refine wl_pure (l' := [(30, .int .i64 c_7), (29, v0), (28, v_10), (4, .int .i64 c_7), (3, v_10), (0, v0)]) S tys tys_ok 3 (by kernel_rfl) ?_
      clear S; intro a S
      obtain ⟨y_23, ey_23, hl_20⟩ := bindS hl_20
      refine w_go S rfl (op_indexAddr S rfl ty22 rfl rfl rfl R0 rfl ey_23 ?_)
      clear S; intro a p_24 R_25 H_26 S
      refine w_go S rfl (op_load (t := gt1) (x := y_23) S rfl ty31 rfl rfl rfl R_25 ?_)
      clear S; intro a v_27 R_28 S
      obtain ⟨t_29, et_29, hl_20⟩ := bindS hl_20
      refine w_go S rfl (op_call (vs := [v_10, v_27]) S rfl cb9 rfl rfl rfl (c9 (Kx K w.heap.size []) n w_21 c_9 _ R_11 y_23 _ R_28 et_29) ?_)
      rintro _ w_37 ⟨v_30, v_31, v_32, rfl, R_33, R_34, R_35, hb_36⟩; refine ⟨_, rfl, ?_⟩
      replace R_33 := RepV.back R_33 W
      replace R_34 := RepV.back R_34 W
      replace R_35 := RepV.back R_35 W
      clear S; intro a S
      replace R_11 := R_11.step hb_36
      replace R0 := R0.step hb_36
      replace R_28 := R_28.step hb_36
      replace W := W.step hb_36
      obtain ⟨rfl, GR_35⟩ := RepV.int R_35
      refine wl_pureK (l' := [(7, .int .i64 t_29.2.2), (6, v_31), (5, v_30), (4, .int .i64 c_7), (3, v_10), (0, v0)]) S tys tys_ok 7 [7, 6, 5, 4, 3, 0] (by kernel_rfl) ?_
      clear S; intro a S
      refine wpList_nil ?_
      refine then_n ?_
      refine wp_seq ?_
      refine wp_seq ?_
      refine wp_region_lit ?_
      refine wl_pure (l' := [(38, .bool (t_29.2.2 != 0)), (37, .int .i64 t_29.2.2), (7, .int .i64 t_29.2.2), (6, v_31), (5, v_30), (4, .int .i64 c_7), (3, v_10), (0, v0)]) S tys tys_ok 2 (by kernel_rfl) ?_
      clear S; intro a S
      refine wpList_nil ?_
      refine then_n ?_
      replace S := S.sub (l' := [(38, .bool (t_29.2.2 != 0)), (6, v_31), (5, v_30), (4, .int .i64 c_7), (3, v_10), (0, v0)]) (by exact ⟨rfl, rfl, rfl, rfl, rfl, rfl, trivial⟩)
      refine wp_cond_split (S.eval (show ev _ _ = some (.bool (t_29.2.2 != 0)) from rfl)) ?_ ?_
      ·intro hc
       rw [if_pos hc] at hl_20
       refine wp_exit ?_
       refine then_x ?_
       refine blk_hit ?_
       refine then_n ?_
       replace S := S.sub (l' := [(4, .int .i64 c_7), (3, v_10), (0, v0)]) (by exact ⟨rfl, rfl, rfl, trivial⟩)
       refine wp_region_lit ?_
       refine wl_pure (l' := [(25, .int .i64 c_7), (4, .int .i64 c_7), (3, v_10), (0, v0)]) S tys tys_ok 1 (by kernel_rfl) ?_
       clear S; intro a S
       obtain ⟨x_38, ex_38, hl_20⟩ := bindS hl_20
       refine w_go S rfl (op_arith S .i64 (c_7 + 1) rfl (.inl rfl) rfl rfl rfl rfl ex_38 ?_)
       clear S; intro a S
       refine wl_pure (l' := [(4, .int .i64 x_38), (26, .int .i64 x_38), (25, .int .i64 c_7), (4, .int .i64 c_7), (3, v_10), (0, v0)]) S tys tys_ok 1 (by kernel_rfl) ?_
       clear S; intro a S
       refine wpList_nil ?_
       refine then_n ?_
       exact ⟨x_38, c_9, ⟨v_10, S.sub (by exact ⟨rfl, rfl, rfl, trivial⟩), W, (ckI_some ex_38).2.1, R_11, R0, hl_20⟩⟩
      ·intro hc
       rw [if_neg (Bool.eq_false_iff.1 hc)] at hl_20
       refine wp_skip ?_
       refine then_n ?_
       replace S := S.sub (l' := [(6, v_31), (5, v_30), (4, .int .i64 c_7), (3, v_10), (0, v0)]) (by exact ⟨rfl, rfl, rfl, rfl, rfl, trivial⟩)
       refine wp_seq ?_
       refine wp_region_lit ?_
       refine wl_pure (l' := [(8, v_10), (39, v_10), (6, v_31), (5, v_30), (4, .int .i64 c_7), (3, v_10), (0, v0)]) S tys tys_ok 2 (by kernel_rfl) ?_
       clear S; intro a S
       refine wpList_nil ?_
       refine then_n ?_
       replace S := S.sub (l' := [(8, v_10), (6, v_31), (5, v_30), (4, .int .i64 c_7), (3, v_10), (0, v0)]) (by exact ⟨rfl, rfl, rfl, rfl, rfl, rfl, trivial⟩)
       refine wp_seq ?_
       refine wp_seq ?_
       refine wp_region_lit ?_
       refine wl_pure (l' := [(41, .int .i64 c_7), (40, v0), (8, v_10), (6, v_31), (5, v_30), (4, .int .i64 c_7), (3, v_10), (0, v0)]) S tys tys_ok 2 (by kernel_rfl) ?_
       clear S; intro a S
       obtain ⟨y_39, ey_39, hl_20⟩ := bindS hl_20
       refine w_go S rfl (op_indexAddr S rfl ty22 rfl rfl rfl R0 rfl ey_39 ?_)
       clear S; intro a p_40 R_41 H_42 S
       refine wl_pureK (l' := [(43, .pointer (some (p_40.add (coff gf1 0)))), (8, v_10), (6, v_31), (5, v_30), (4, .int .i64 c_7), (3, v_10), (0, v0)]) S tys tys_ok 1 [43, 8, 6, 5, 4, 3, 0] (by kernel_rfl) ?_
       clear S; intro a S
       refine w_go S rfl (op_load (t := (.int .u8)) (x := y_39.1) S rfl ty5 rfl rfl rfl (RepAt.add 0 (RepAt.st (t := gf1) R_41)) ?_)
       clear S; intro a v_43 R_44 S
       obtain ⟨rfl, GR_44⟩ := RepV.int R_44
       obtain ⟨x_45, ex_45, hl_20⟩ := bindS hl_20
       refine w_go S rfl (op_rem S .u8 rfl rfl rfl rfl rfl ex_45 ?_)
       clear S; intro a S
       refine wl_pureK (l' := [(46, .bool (decide (x_45 < 2))), (8, v_10), (6, v_31), (5, v_30), (4, .int .i64 c_7), (3, v_10), (0, v0)]) S tys tys_ok 1 [46, 8, 6, 5, 4, 3, 0] (by kernel_rfl) ?_
       clear S; intro a S
       refine wpList_nil ?_
       refine then_n ?_
       obtain ⟨j_46, ej_46, hl_20⟩ := bindS hl_20
       refine wp_cut_ (fun a_ w_ => ∃ (v_47 : Value), St 211 a_ [(8, v_47), (6, v_31), (5, v_30), (4, .int .i64 c_7), (3, v_10), (0, v0)] ∧ Wd w w_ [] ∧ RepV (.sl gt2) w_ (Kx K w.heap.size []) v_47 j_46 ∧ RepV (.sl gt0) w_ (Kx K w.heap.size []) v_31 t_29.2.1 ∧ RepV (.sl gt2) w_ (Kx K w.heap.size []) v_30 t_29.1 ∧ RepV (.sl gt2) w_ (Kx K w.heap.size []) v_10 c_9 ∧ RepV (.sl gt1) w_ (Kx K w.heap.size []) v0 x0) ?_ ?_
       ·refine wp_cond_split (S.eval (show ev _ _ = some (.bool (decide (x_45 < 2))) from rfl)) ?_ ?_
        ·intro hc
         rw [if_pos hc] at ej_46
         refine wp_region_lit ?_
         refine wl_pure (l' := [(8, v_30), (47, v_30), (46, .bool (decide (x_45 < 2))), (8, v_10), (6, v_31), (5, v_30), (4, .int .i64 c_7), (3, v_10), (0, v0)]) S tys tys_ok 2 (by kernel_rfl) ?_
         clear S; intro a S
         refine wpList_nil ?_
         refine then_n ?_
         obtain rfl := Option.some.inj ej_46
         exact ⟨v_30, S.sub (by exact ⟨rfl, rfl, rfl, rfl, rfl, rfl, trivial⟩), W, R_33, R_34, R_33, R_11, R0⟩
        ·intro hc
         rw [if_neg (Bool.eq_false_iff.1 hc)] at ej_46
         refine wp_skip ?_
         refine then_n ?_
         obtain rfl := Option.some.inj ej_46
         exact ⟨v_10, S.sub (by exact ⟨rfl, rfl, rfl, rfl, rfl, rfl, trivial⟩), W, R_11, R_34, R_33, R_11, R0⟩
       clear S W; rintro a w_49 ⟨v_47, S, W, R_48, R_34, R_33, R_11, R0⟩
       refine then_n ?_
       refine wp_seq ?_
       refine wp_region_lit ?_
       refine wl_pure (l' := [(48, v_47), (8, v_47), (6, v_31), (5, v_30), (4, .int .i64 c_7), (3, v_10), (0, v0)]) S tys tys_ok 1 (by kernel_rfl) ?_
       clear S; intro a S
       refine w_go S rfl (op_len (K := _) S rfl ty25 rfl rfl rfl R_48 ?_)
       clear S; intro a G_50 S
       obtain ⟨m_51, em_51, hl_20⟩ := bindS hl_20
       refine w_go S rfl (op_make (K := K) (e := .bool) (z0 := false) S W _ rfl ty32 un32 by32 z4 (fun w K => rfl) rfl rfl rfl rfl em_51 ?_)
       clear S; intro a w_53 b_52 hb_54 O_55 S
       replace R_48 := R_48.box hb_54
       replace R_34 := R_34.box hb_54
       replace R_33 := R_33.box hb_54
       replace R_11 := R_11.box hb_54
       replace R0 := R0.box hb_54
       replace W := W.box hb_54
       replace O_55 : Ow .bool 4 w_53 w.heap.size (Kx K w.heap.size [some b_52]) (.slice (some ⟨b_52, 0, .none⟩) m_51.1 m_51.2) (List.replicate m_51.1 (false : Bool)) (some m_51.2) := O_55
       refine wl_pureK (l' := [(9, (.slice (some ⟨b_52, 0, .none⟩) m_51.1 m_51.2)), (8, v_47), (6, v_31), (5, v_30), (4, .int .i64 c_7), (3, v_10), (0, v0)]) S tys tys_ok 1 [9, 8, 6, 5, 4, 3, 0] (by kernel_rfl) ?_
       clear S; intro a S
       refine wpList_nil ?_
       refine then_n ?_
       refine wp_seq ?_
       refine wp_seq ?_
       refine wp_region_lit ?_
       refine wl_pure (l' := [(10, .int .i64 0), (9, (.slice (some ⟨b_52, 0, .none⟩) m_51.1 m_51.2)), (8, v_47), (6, v_31), (5, v_30), (4, .int .i64 c_7), (3, v_10), (0, v0)]) S tys tys_ok 1 (by kernel_rfl) ?_
       clear S; intro a S
       refine wpList_nil ?_
       refine then_n ?_
       obtain ⟨y_66, ey_66, hl_20⟩ := bindS hl_20
       refine wp_cut_ (fun a_ w_ => St 211 a_ [(0, v0), (4, .int .i64 c_7), (5, v_30), (6, v_31), (8, v_47), (9, (.slice (some ⟨b_52, 0, .none⟩) m_51.1 m_51.2))] ∧ Wd w w_ [some b_52] ∧ RepV (.sl gt1) w_ (Kx K w.heap.size [some b_52]) v0 x0 ∧ RepV (.sl gt2) w_ (Kx K w.heap.size [some b_52]) v_30 t_29.1 ∧ RepV (.sl gt0) w_ (Kx K w.heap.size [some b_52]) v_31 t_29.2.1 ∧ RepV (.sl gt2) w_ (Kx K w.heap.size [some b_52]) v_47 j_46 ∧ Ow .bool 4 w_ w.heap.size (Kx K w.heap.size [some b_52]) (.slice (some ⟨b_52, 0, .none⟩) m_51.1 m_51.2) y_66 (some m_51.2)) ?_ ?_
       ·refine wp_block ?_
        refine wp_loop_n (fun m_ a_ w_ => ∃ (c_56 : Int) (c_58 : List (Bool)) , St 211 a_ [(10, .int .i64 c_56), (9, (.slice (some ⟨b_52, 0, .none⟩) m_51.1 m_51.2)), (8, v_47), (6, v_31), (5, v_30), (4, .int .i64 c_7), (3, v_10), (0, v0)] ∧ Wd w w_ [some b_52] ∧ InR .i64 c_56 ∧ RepV (.sl gt2) w_ (Kx K w.heap.size [some b_52]) v_47 j_46 ∧ RepV (.sl gt0) w_ (Kx K w.heap.size [some b_52]) v_31 t_29.2.1 ∧ RepV (.sl gt2) w_ (Kx K w.heap.size [some b_52]) v_30 t_29.1 ∧ RepV (.sl gt2) w_ (Kx K w.heap.size [some b_52]) v_10 c_9 ∧ RepV (.sl gt1) w_ (Kx K w.heap.size [some b_52]) v0 x0 ∧ Ow .bool 4 w_ w.heap.size (Kx K w.heap.size [some b_52]) (.slice (some ⟨b_52, 0, .none⟩) m_51.1 m_51.2) c_58 (some m_51.2) ∧ p3_l2 n c_9 j_46 m_ c_56 c_58 = some y_66) n ?_ ?_
        ·skip
         exact ⟨0, (List.replicate m_51.1 (false : Bool)), ⟨S.sub (by exact ⟨rfl, rfl, rfl, rfl, rfl, rfl, rfl, rfl, trivial⟩), W, (by decide), R_48, R_34, R_33, R_11, R0, O_55, ey_66⟩⟩
        ·clear S W; rintro m_69 a w_71 ⟨c_56, c_58, S, W, G_57, R_48, R_34, R_33, R_11, R0, O_60, hl_70⟩
         cases m_69 with
         | zero => exact absurd hl_70 (by simp [p3_l2])
         | succ m_69 =>
          refine ⟨m_69, rfl, ?_⟩
          rw [p3_l2] at hl_70
          refine wp_seq ?_
          refine wp_seq ?_
          refine wp_region_lit ?_
          refine wl_pure (l' := [(52, v_47), (51, .int .i64 c_56), (10, .int .i64 c_56), (9, (.slice (some ⟨b_52, 0, .none⟩) m_51.1 m_51.2)), (8, v_47), (6, v_31), (5, v_30), (4, .int .i64 c_7), (3, v_10), (0, v0)]) S tys tys_ok 2 (by kernel_rfl) ?_
          clear S; intro a S
          refine w_go S rfl (op_len (K := _) S rfl ty25 rfl rfl rfl R_48 ?_)
          clear S; intro a G_72 S
          refine wl_pureK (l' := [(54, .bool (decide (c_56 < (lenI j_46)))), (10, .int .i64 c_56), (9, (.slice (some ⟨b_52, 0, .none⟩) m_51.1 m_51.2)), (8, v_47), (6, v_31), (5, v_30), (4, .int .i64 c_7), (3, v_10), (0, v0)]) S tys tys_ok 1 [54, 10, 9, 8, 6, 5, 4, 3, 0] (by kernel_rfl) ?_
          clear S; intro a S
          refine wpList_nil ?_
          refine then_n ?_
          refine wp_cond_split (S.eval (show ev _ _ = some (.bool (decide (c_56 < (lenI j_46)))) from rfl)) ?_ ?_
          ·intro hc
           rw [if_pos hc] at hl_70
           refine wp_skip ?_
           refine then_n ?_
           replace S := S.sub (l' := [(10, .int .i64 c_56), (9, (.slice (some ⟨b_52, 0, .none⟩) m_51.1 m_51.2)), (8, v_47), (6, v_31), (5, v_30), (4, .int .i64 c_7), (3, v_10), (0, v0)]) (by exact ⟨rfl, rfl, rfl, rfl, rfl, rfl, rfl, rfl, trivial⟩)
           refine wp_seq ?_
           refine wp_block ?_
           refine wp_seq ?_
           refine wp_region_lit ?_
           refine wl_pure (l' := [(59, .int .i64 c_56), (58, v_47), (57, v_10), (10, .int .i64 c_56), (9, (.slice (some ⟨b_52, 0, .none⟩) m_51.1 m_51.2)), (8, v_47), (6, v_31), (5, v_30), (4, .int .i64 c_7), (3, v_10), (0, v0)]) S tys tys_ok 3 (by kernel_rfl) ?_
           clear S; intro a S
           obtain ⟨y_73, ey_73, hl_70⟩ := bindS hl_70
           refine w_go S rfl (op_indexAddr S rfl ty25 rfl rfl rfl R_48 rfl ey_73 ?_)
           clear S; intro a p_74 R_75 H_76 S
           refine wl_pureK (l' := [(61, .pointer (some (p_74.add (coff gf2 0)))), (57, v_10), (10, .int .i64 c_56), (9, (.slice (some ⟨b_52, 0, .none⟩) m_51.1 m_51.2)), (8, v_47), (6, v_31), (5, v_30), (4, .int .i64 c_7), (3, v_10), (0, v0)]) S tys tys_ok 1 [61, 57, 10, 9, 8, 6, 5, 4, 3, 0] (by kernel_rfl) ?_
           clear S; intro a S
           refine w_go S rfl (op_load (t := (.sl (.int .u8))) (x := y_73.1) S rfl ty35 rfl rfl rfl (RepAt.add 0 (RepAt.st (t := gf2) R_75)) ?_)
           clear S; intro a v_77 R_78 S
           obtain ⟨t_79, et_79, hl_70⟩ := bindS hl_70
           refine w_go S rfl (op_call (vs := [v_10, v_77]) S rfl cb10 rfl rfl rfl (c10 (Kx K w.heap.size [some b_52]) n w_71 c_9 _ R_11 y_73.1 _ R_78 et_79) ?_)
           rintro _ w_83 ⟨v_80, rfl, R_81, hb_82⟩; refine ⟨_, rfl, ?_⟩
           replace R_81 := RepV.back R_81 W
           clear S; intro a S
           replace R_48 := R_48.step hb_82
           replace R_34 := R_34.step hb_82
           replace R_33 := R_33.step hb_82
           replace R_11 := R_11.step hb_82
           replace R0 := R0.step hb_82
           replace R_78 := R_78.step hb_82
           replace O_60 := O_60.step hb_82
           replace W := W.step hb_82
           obtain ⟨rfl, GR_81⟩ := RepV.int R_81
           refine wl_pureK (l' := [(11, .int .i64 t_79), (10, .int .i64 c_56), (9, (.slice (some ⟨b_52, 0, .none⟩) m_51.1 m_51.2)), (8, v_47), (6, v_31), (5, v_30), (4, .int .i64 c_7), (3, v_10), (0, v0)]) S tys tys_ok 1 [11, 10, 9, 8, 6, 5, 4, 3, 0] (by kernel_rfl) ?_
           clear S; intro a S
           refine wpList_nil ?_
           refine then_n ?_
           refine wp_region_lit ?_
           refine wl_pure (l' := [(68, .bool (decide (t_79 ≥ 0))), (67, .bool (decide (t_79 ≥ 0))), (66, .int .i64 t_79), (65, .int .i64 c_56), (64, (.slice (some ⟨b_52, 0, .none⟩) m_51.1 m_51.2)), (11, .int .i64 t_79), (10, .int .i64 c_56), (9, (.slice (some ⟨b_52, 0, .none⟩) m_51.1 m_51.2)), (8, v_47), (6, v_31), (5, v_30), (4, .int .i64 c_7), (3, v_10), (0, v0)]) S tys tys_ok 5 (by kernel_rfl) ?_
           clear S; intro a S
           obtain ⟨q_84, eq_84, hl_70⟩ := bindS hl_70
           refine seg 6 (fun a_ w_ => w_83 = w_ ∧ St 211 a_ [(74, .bool q_84), (65, .int .i64 c_56), (64, (.slice (some ⟨b_52, 0, .none⟩) m_51.1 m_51.2)), (10, .int .i64 c_56), (9, (.slice (some ⟨b_52, 0, .none⟩) m_51.1 m_51.2)), (8, v_47), (6, v_31), (5, v_30), (4, .int .i64 c_7), (3, v_10), (0, v0)]) ?_ ?_
           ·by_cases hc : (decide (t_79 ≥ 0)) = true
            ·rw [if_pos hc] at eq_84; rw [hc] at S
             refine wl_pureK (l' := [(70, .int .i64 t_79), (69, v_10), (68, .bool true), (65, .int .i64 c_56), (64, (.slice (some ⟨b_52, 0, .none⟩) m_51.1 m_51.2)), (10, .int .i64 c_56), (9, (.slice (some ⟨b_52, 0, .none⟩) m_51.1 m_51.2)), (8, v_47), (6, v_31), (5, v_30), (4, .int .i64 c_7), (3, v_10), (0, v0)]) S tys tys_ok 2 [70, 69, 68, 65, 64, 10, 9, 8, 6, 5, 4, 3, 0] (by kernel_rfl) ?_
             clear S; intro a S
             obtain ⟨y_85, ey_85, eq_84⟩ := bindS eq_84
             refine w_go S rfl (op_indexAddr S rfl ty25 rfl rfl rfl R_11 rfl ey_85 ?_)
             clear S; intro a p_86 R_87 H_88 S
             refine wl_pure (l' := [(72, .pointer (some (p_86.add (coff gf2 3)))), (71, .pointer (some p_86)), (70, .int .i64 t_79), (69, v_10), (68, .bool true), (65, .int .i64 c_56), (64, (.slice (some ⟨b_52, 0, .none⟩) m_51.1 m_51.2)), (10, .int .i64 c_56), (9, (.slice (some ⟨b_52, 0, .none⟩) m_51.1 m_51.2)), (8, v_47), (6, v_31), (5, v_30), (4, .int .i64 c_7), (3, v_10), (0, v0)]) S tys tys_ok 1 (by kernel_rfl) ?_
             clear S; intro a S
             refine w_go S rfl (op_load (t := .bool) (x := y_85.2.2.2.1) S rfl ty4 rfl rfl rfl (RepAt.add 3 (RepAt.st (t := gf2) R_87)) ?_)
             clear S; intro a v_89 R_90 S
             obtain rfl := RepV.bool R_90
             refine wl_pure (l' := [(74, .bool y_85.2.2.2.1), (73, .bool y_85.2.2.2.1), (72, .pointer (some (p_86.add (coff gf2 3)))), (71, .pointer (some p_86)), (70, .int .i64 t_79), (69, v_10), (68, .bool true), (65, .int .i64 c_56), (64, (.slice (some ⟨b_52, 0, .none⟩) m_51.1 m_51.2)), (10, .int .i64 c_56), (9, (.slice (some ⟨b_52, 0, .none⟩) m_51.1 m_51.2)), (8, v_47), (6, v_31), (5, v_30), (4, .int .i64 c_7), (3, v_10), (0, v0)]) S tys tys_ok 1 (by kernel_rfl) ?_
             clear S; intro a S
             obtain rfl := Option.some.inj eq_84
             exact ⟨rfl, S.sub (by exact ⟨rfl, rfl, rfl, rfl, rfl, rfl, rfl, rfl, rfl, rfl, rfl, trivial⟩)⟩
            ·rw [if_neg hc] at eq_84; rw [show (decide (t_79 ≥ 0)) = false from Bool.eq_false_iff.2 hc] at S
             refine wl_pureK (l' := [(74, .bool false), (73, undef), (72, undef), (71, undef), (70, undef), (69, undef), (65, .int .i64 c_56), (64, (.slice (some ⟨b_52, 0, .none⟩) m_51.1 m_51.2)), (10, .int .i64 c_56), (9, (.slice (some ⟨b_52, 0, .none⟩) m_51.1 m_51.2)), (8, v_47), (6, v_31), (5, v_30), (4, .int .i64 c_7), (3, v_10), (0, v0)]) S tys tys_ok 6 [74, 73, 72, 71, 70, 69, 65, 64, 10, 9, 8, 6, 5, 4, 3, 0] (by kernel_rfl) ?_
             clear S; intro a S
             obtain rfl := Option.some.inj eq_84
             exact ⟨rfl, S.sub (by exact ⟨rfl, rfl, rfl, rfl, rfl, rfl, rfl, rfl, rfl, rfl, rfl, trivial⟩)⟩
           clear S eq_84; rintro a _ ⟨rfl, S⟩
           obtain ⟨y_91, ey_91, hl_70⟩ := bindS hl_70
           refine w_go S rfl (op_indexAddr_own S rfl ty32 rfl rfl rfl O_60 rfl ey_91 ?_)
           clear S; intro a g_92 H_94 R_93 S
           refine w_go S rfl (op_store_own (t' := .bool) S rfl rfl ty4 rfl rfl rfl O_60 H_94 0 rfl (idx_some ey_91).2.1 Ln.whole (RepV.mkBool : RepV .bool w_83 (Kx K w.heap.size [some b_52]) _ q_84) ?_)
           intro w_95 hw_96 hm_98 O_97
           replace R_48 := R_48.wrote hw_96 hm_98
           replace R_34 := R_34.wrote hw_96 hm_98
           replace R_33 := R_33.wrote hw_96 hm_98
           replace R_11 := R_11.wrote hw_96 hm_98
           replace R0 := R0.wrote hw_96 hm_98
           replace W := W.wrote hw_96 hm_98
           replace O_97 : Ow .bool 4 w_95 w.heap.size (Kx K w.heap.size [some b_52]) (.slice (some ⟨b_52, 0, .none⟩) m_51.1 m_51.2) (c_58.set c_56.toNat q_84) (some m_51.2) := O_97
           refine wpList_nil ?_
           refine blk_n ?_
           refine then_n ?_
           replace S := S.sub (l' := [(10, .int .i64 c_56), (9, (.slice (some ⟨b_52, 0, .none⟩) m_51.1 m_51.2)), (8, v_47), (6, v_31), (5, v_30), (4, .int .i64 c_7), (3, v_10), (0, v0)]) (by exact ⟨rfl, rfl, rfl, rfl, rfl, rfl, rfl, rfl, trivial⟩)
           refine wp_region_lit ?_
           refine wl_pure (l' := [(55, .int .i64 c_56), (10, .int .i64 c_56), (9, (.slice (some ⟨b_52, 0, .none⟩) m_51.1 m_51.2)), (8, v_47), (6, v_31), (5, v_30), (4, .int .i64 c_7), (3, v_10), (0, v0)]) S tys tys_ok 1 (by kernel_rfl) ?_
           clear S; intro a S
           obtain ⟨x_99, ex_99, hl_70⟩ := bindS hl_70
           refine w_go S rfl (op_arith S .i64 (c_56 + 1) rfl (.inl rfl) rfl rfl rfl rfl ex_99 ?_)
           clear S; intro a S
           refine wl_pure (l' := [(10, .int .i64 x_99), (56, .int .i64 x_99), (55, .int .i64 c_56), (10, .int .i64 c_56), (9, (.slice (some ⟨b_52, 0, .none⟩) m_51.1 m_51.2)), (8, v_47), (6, v_31), (5, v_30), (4, .int .i64 c_7), (3, v_10), (0, v0)]) S tys tys_ok 1 (by kernel_rfl) ?_
           clear S; intro a S
           refine wpList_nil ?_
           refine then_n ?_
           exact ⟨x_99, (c_58.set c_56.toNat q_84), ⟨S.sub (by exact ⟨rfl, rfl, rfl, rfl, rfl, rfl, rfl, rfl, trivial⟩), W, (ckI_some ex_99).2.1, R_48, R_34, R_33, R_11, R0, O_97, hl_70⟩⟩
          ·intro hc
           rw [if_neg (Bool.eq_false_iff.1 hc)] at hl_70
           refine wp_exit ?_
           refine then_x ?_
           refine then_x ?_
           refine blk_hit ?_
           refine then_n ?_
           obtain rfl := Option.some.inj hl_70
           exact ⟨S.sub (by exact ⟨rfl, rfl, rfl, rfl, rfl, rfl, trivial⟩), W, R0, R_33, R_34, R_48, O_60⟩
       clear S W; rintro a w_100 ⟨S, W, R0, R_33, R_34, R_48, O_68⟩
       refine then_n ?_
       refine wp_seq ?_
       refine wp_seq ?_
       refine wp_region_lit ?_
       refine wl_pure (l' := [(12, .int .i64 0), (0, v0), (4, .int .i64 c_7), (5, v_30), (6, v_31), (8, v_47), (9, (.slice (some ⟨b_52, 0, .none⟩) m_51.1 m_51.2))]) S tys tys_ok 1 (by kernel_rfl) ?_
       clear S; intro a S
       refine wpList_nil ?_
       refine then_n ?_
       obtain ⟨y_111, ey_111, hl_20⟩ := bindS hl_20
       refine wp_cut_ (fun a_ w_ => ∃ s_112 : (List (Bool)), y_111 = .inl s_112 ∧ (St 211 a_ [(0, v0), (4, .int .i64 c_7), (5, v_30), (8, v_47), (9, (.slice (some ⟨b_52, 0, .none⟩) m_51.1 m_51.2))] ∧ Wd w w_ [some b_52] ∧ RepV (.sl gt1) w_ (Kx K w.heap.size [some b_52]) v0 x0 ∧ RepV (.sl gt2) w_ (Kx K w.heap.size [some b_52]) v_30 t_29.1 ∧ RepV (.sl gt2) w_ (Kx K w.heap.size [some b_52]) v_47 j_46 ∧ Ow .bool 4 w_ w.heap.size (Kx K w.heap.size [some b_52]) (.slice (some ⟨b_52, 0, .none⟩) m_51.1 m_51.2) s_112 (some m_51.2))) ?_ ?_
       ·refine wp_block ?_
        refine wp_loop_n (fun m_ a_ w_ => ∃ (c_101 : Int) (c_103 : List (Bool)) , St 211 a_ [(12, .int .i64 c_101), (0, v0), (4, .int .i64 c_7), (5, v_30), (6, v_31), (8, v_47), (9, (.slice (some ⟨b_52, 0, .none⟩) m_51.1 m_51.2))] ∧ Wd w w_ [some b_52] ∧ InR .i64 c_101 ∧ RepV (.sl gt1) w_ (Kx K w.heap.size [some b_52]) v0 x0 ∧ RepV (.sl gt2) w_ (Kx K w.heap.size [some b_52]) v_30 t_29.1 ∧ RepV (.sl gt0) w_ (Kx K w.heap.size [some b_52]) v_31 t_29.2.1 ∧ RepV (.sl gt2) w_ (Kx K w.heap.size [some b_52]) v_47 j_46 ∧ Ow .bool 4 w_ w.heap.size (Kx K w.heap.size [some b_52]) (.slice (some ⟨b_52, 0, .none⟩) m_51.1 m_51.2) c_103 (some m_51.2) ∧ p3_l3 n t_29 j_46 m_ c_101 c_103 = some y_111) n ?_ ?_
        ·skip
         exact ⟨0, y_66, ⟨S.sub (by exact ⟨rfl, rfl, rfl, rfl, rfl, rfl, rfl, trivial⟩), W, (by decide), R0, R_33, R_34, R_48, O_68, ey_111⟩⟩
        ·clear S W; rintro m_115 a w_117 ⟨c_101, c_103, S, W, G_102, R0, R_33, R_34, R_48, O_105, hl_116⟩
         cases m_115 with
         | zero => exact absurd hl_116 (by simp [p3_l3])
         | succ m_115 =>
          refine ⟨m_115, rfl, ?_⟩
          rw [p3_l3] at hl_116
          refine wp_seq ?_
          refine wp_seq ?_
          refine wp_region_lit ?_
          refine wl_pure (l' := [(77, v_31), (76, .int .i64 c_101), (12, .int .i64 c_101), (0, v0), (4, .int .i64 c_7), (5, v_30), (6, v_31), (8, v_47), (9, (.slice (some ⟨b_52, 0, .none⟩) m_51.1 m_51.2))]) S tys tys_ok 2 (by kernel_rfl) ?_
          clear S; intro a S
          refine w_go S rfl (op_len (K := _) S rfl ty26 rfl rfl rfl R_34 ?_)
          clear S; intro a G_118 S
          refine wl_pureK (l' := [(79, .bool (decide (c_101 < (lenI t_29.2.1)))), (12, .int .i64 c_101), (0, v0), (4, .int .i64 c_7), (5, v_30), (6, v_31), (8, v_47), (9, (.slice (some ⟨b_52, 0, .none⟩) m_51.1 m_51.2))]) S tys tys_ok 1 [79, 12, 0, 4, 5, 6, 8, 9] (by kernel_rfl) ?_
          clear S; intro a S
          refine wpList_nil ?_
          refine then_n ?_
          refine wp_cond_split (S.eval (show ev _ _ = some (.bool (decide (c_101 < (lenI t_29.2.1)))) from rfl)) ?_ ?_
          ·intro hc
           rw [if_pos hc] at hl_116
           refine wp_skip ?_
           refine then_n ?_
           replace S := S.sub (l' := [(12, .int .i64 c_101), (0, v0), (4, .int .i64 c_7), (5, v_30), (6, v_31), (8, v_47), (9, (.slice (some ⟨b_52, 0, .none⟩) m_51.1 m_51.2))]) (by exact ⟨rfl, rfl, rfl, rfl, rfl, rfl, rfl, trivial⟩)
           refine wp_seq ?_
           refine wp_block ?_
           refine wp_seq ?_
           refine wp_region_lit ?_
           refine wl_pure (l' := [(84, .int .i64 c_101), (83, v_31), (82, v_47), (12, .int .i64 c_101), (0, v0), (4, .int .i64 c_7), (5, v_30), (6, v_31), (8, v_47), (9, (.slice (some ⟨b_52, 0, .none⟩) m_51.1 m_51.2))]) S tys tys_ok 3 (by kernel_rfl) ?_
           clear S; intro a S
           obtain ⟨y_119, ey_119, hl_116⟩ := bindS hl_116
           refine w_go S rfl (op_indexAddr S rfl ty26 rfl rfl rfl R_34 rfl ey_119 ?_)
           clear S; intro a p_120 R_121 H_122 S
           refine wl_pureK (l' := [(86, .pointer (some (p_120.add (coff gf0 0)))), (82, v_47), (12, .int .i64 c_101), (0, v0), (4, .int .i64 c_7), (5, v_30), (6, v_31), (8, v_47), (9, (.slice (some ⟨b_52, 0, .none⟩) m_51.1 m_51.2))]) S tys tys_ok 1 [86, 82, 12, 0, 4, 5, 6, 8, 9] (by kernel_rfl) ?_
           clear S; intro a S
           refine w_go S rfl (op_load (t := (.sl (.int .u8))) (x := y_119.1) S rfl ty35 rfl rfl rfl (RepAt.add 0 (RepAt.st (t := gf0) R_121)) ?_)
           clear S; intro a v_123 R_124 S
           obtain ⟨t_125, et_125, hl_116⟩ := bindS hl_116
           refine w_go S rfl (op_call (vs := [v_47, v_123]) S rfl cb10 rfl rfl rfl (c10 (Kx K w.heap.size [some b_52]) n w_117 j_46 _ R_48 y_119.1 _ R_124 et_125) ?_)
           rintro _ w_129 ⟨v_126, rfl, R_127, hb_128⟩; refine ⟨_, rfl, ?_⟩
           replace R_127 := RepV.back R_127 W
           clear S; intro a S
           replace R0 := R0.step hb_128
           replace R_33 := R_33.step hb_128
           replace R_34 := R_34.step hb_128
           replace R_48 := R_48.step hb_128
           replace R_124 := R_124.step hb_128
           replace O_105 := O_105.step hb_128
           replace W := W.step hb_128
           obtain ⟨rfl, GR_127⟩ := RepV.int R_127
           refine wl_pureK (l' := [(13, .int .i64 t_125), (12, .int .i64 c_101), (0, v0), (4, .int .i64 c_7), (5, v_30), (6, v_31), (8, v_47), (9, (.slice (some ⟨b_52, 0, .none⟩) m_51.1 m_51.2))]) S tys tys_ok 1 [13, 12, 0, 4, 5, 6, 8, 9] (by kernel_rfl) ?_
           clear S; intro a S
           refine wpList_nil ?_
           refine then_n ?_
           refine wp_seq ?_
           refine wp_seq ?_
           obtain ⟨q_130, eq_130, hl_116⟩ := bindS hl_116
           obtain ⟨y_132, y_138, HG_131⟩ : ∃ (y_132 : Bool) (y_138 : (Sl (Int)) × Bool) , ((decide (t_125 < 0)) = false → (idx c_103 t_125) = some y_132 ∧ (idx t_29.2.1.xs c_101) = some y_138 ∧ (!(y_132 == y_138.2)) = q_130) ∧ (¬ (decide (t_125 < 0)) = false → true = q_130) := by
            by_cases hc : (decide (t_125 < 0)) = false
            ·rw [if_pos hc] at eq_130
             obtain ⟨y_132, ey_132, eq_130⟩ := bindS eq_130
             obtain ⟨y_138, ey_138, eq_130⟩ := bindS eq_130
             exact ⟨y_132, y_138, ⟨fun _ => ⟨ey_132, ey_138, Option.some.inj eq_130⟩, fun k_ => absurd hc k_⟩⟩
            ·rw [if_neg hc] at eq_130
             exact ⟨default, default, ⟨fun k_ => absurd k_ hc, fun _ => Option.some.inj eq_130⟩⟩
           have hR : Rel (Kx K w.heap.size [some b_52]) Bl := Bl.rel _
           refine wp_region_all hR [isI .i64 t_125, eqv (.bool (decide (t_125 < 0))), eqv (.bool (decide (t_125 < 0))), cndF (decide (t_125 < 0)) false (eqv ((.slice (some ⟨b_52, 0, .none⟩) m_51.1 m_51.2))), cndF (decide (t_125 < 0)) false (isI .i64 t_125), cndF (decide (t_125 < 0)) false (isEo .bool (Kx K w.heap.size [some b_52]) y_132), cndF (decide (t_125 < 0)) false (eqv (.bool y_132)), cndF (decide (t_125 < 0)) false (isRep (.sl gt0) (Kx K w.heap.size [some b_52]) t_29.2.1), cndF (decide (t_125 < 0)) false (isI .i64 c_101), cndF (decide (t_125 < 0)) false (isEl gt0 (Kx K w.heap.size [some b_52]) y_138), cndF (decide (t_125 < 0)) false (isEl .bool (Kx K w.heap.size [some b_52]) y_138.2), cndF (decide (t_125 < 0)) false (eqv (.bool y_138.2)), cndF (decide (t_125 < 0)) false (eqv (.bool (!(y_132 == y_138.2)))), eqv (.bool q_130)] [[], [(0, 89)], [(1, 90)], [(2, 91)], [(2, 91)], [(3, 92), (4, 93), (2, 91)], [(5, 94), (2, 91)], [(2, 91)], [(2, 91)], [(7, 96), (8, 97), (2, 91)], [(9, 98), (2, 91)], [(10, 99), (2, 91)], [(6, 95), (11, 100), (2, 91)], [(2, 91), (12, 101)]] (by kernel_rfl) (by rw [S.size]; kernel_rfl) (by kernel_rfl) (by kernel_rfl) rfl ⟨stab_I, (stab_eqv _), (stab_eqv _), (stab_cnd (stab_eqv _)), (stab_cnd stab_I), (stab_cnd stab_eo), (stab_cnd (stab_eqv _)), (stab_cnd (stab_rep hR)), (stab_cnd stab_I), (stab_cnd (stab_el hR)), (stab_cnd (stab_el hR)), (stab_cnd (stab_eqv _)), (stab_cnd (stab_eqv _)), (stab_eqv _), trivial⟩ ?_ ?_
           ·
            refine RunAll.cons (isI .i64 t_125) [] rfl rfl ?_ ?_
            ·intro W_ hW
             have S1 := S
             exact RPost.one (v := .int .i64 t_125) S1 tys tys_ok rfl (by kernel_rfl) S.defers ⟨rfl, GR_127⟩ (Below.refl _ _)
            refine RunAll.cons (eqv (.bool (decide (t_125 < 0)))) [(isI .i64 t_125, 89)] rfl rfl ?_ ?_
            ·intro W_ hW
             have S1 := S
             rintro _ ⟨rfl, hF_144⟩
             replace S1 := S1.put (by decide : 89 < 211) (.int .i64 t_125)
             exact RPost.one (v := .bool (decide (t_125 < 0))) S1 tys tys_ok rfl (by kernel_rfl) S.defers rfl (Below.refl _ _)
            refine RunAll.cons (eqv (.bool (decide (t_125 < 0)))) [(eqv (.bool (decide (t_125 < 0))), 90)] rfl rfl ?_ ?_
            ·intro W_ hW
             have S1 := S
             intro v_147 hF_146; obtain rfl : .bool (decide (t_125 < 0)) = v_147 := Eq.symm hF_146
             replace S1 := S1.put (by decide : 90 < 211) (.bool (decide (t_125 < 0)))
             exact RPost.one (v := .bool (decide (t_125 < 0))) S1 tys tys_ok rfl (by kernel_rfl) S.defers rfl (Below.refl _ _)
            refine RunAll.cons (cndF (decide (t_125 < 0)) false (eqv ((.slice (some ⟨b_52, 0, .none⟩) m_51.1 m_51.2)))) [(eqv (.bool (decide (t_125 < 0))), 91)] rfl rfl ?_ ?_
            ·intro W_ hW
             by_cases hc0 : (decide (t_125 < 0)) = false
             ·have hl0 : (decide (t_125 < 0)) = false := hc0
              have S1 := S
              intro v_149 hF_148; obtain rfl : .bool (decide (t_125 < 0)) = v_149 := Eq.symm hF_148
              replace S1 := S1.put (by decide : 91 < 211) (.bool (decide (t_125 < 0)))
              refine fill_nil S1 ?_; clear S1; intro a_ S1
              replace O_105 := O_105.step hW
              rw [show (decide (t_125 < 0)) = false from hl0] at S1
              exact RPost.one (v := (.slice (some ⟨b_52, 0, .none⟩) m_51.1 m_51.2)) S1 tys tys_ok rfl (by kernel_rfl) S.defers ⟨fun _ => rfl, fun k_ => absurd hc0 k_⟩ (Below.refl _ _)
             ·have hl0 : (decide (t_125 < 0)) = true := (by simpa using hc0)
              have S1 := S
              intro v_151 hF_150; obtain rfl : .bool (decide (t_125 < 0)) = v_151 := Eq.symm hF_150
              replace S1 := S1.put (by decide : 91 < 211) (.bool (decide (t_125 < 0)))
              refine fill_nil S1 ?_; clear S1; intro a_ S1
              rw [show (decide (t_125 < 0)) = true from hl0] at S1
              exact RPost.one (v := undef) S1 tys tys_ok rfl (by kernel_rfl) S.defers ⟨fun k_ => absurd k_ hc0, fun _ => rfl⟩ (Below.refl _ _)
            refine RunAll.cons (cndF (decide (t_125 < 0)) false (isI .i64 t_125)) [(eqv (.bool (decide (t_125 < 0))), 91)] rfl rfl ?_ ?_
            ·intro W_ hW
             by_cases hc0 : (decide (t_125 < 0)) = false
             ·have hl0 : (decide (t_125 < 0)) = false := hc0
              have S1 := S
              intro v_153 hF_152; obtain rfl : .bool (decide (t_125 < 0)) = v_153 := Eq.symm hF_152
              replace S1 := S1.put (by decide : 91 < 211) (.bool (decide (t_125 < 0)))
              refine fill_nil S1 ?_; clear S1; intro a_ S1
              rw [show (decide (t_125 < 0)) = false from hl0] at S1
              exact RPost.one (v := .int .i64 t_125) S1 tys tys_ok rfl (by kernel_rfl) S.defers ⟨fun _ => ⟨rfl, GR_127⟩, fun k_ => absurd hc0 k_⟩ (Below.refl _ _)
             ·have hl0 : (decide (t_125 < 0)) = true := (by simpa using hc0)
              have S1 := S
              intro v_155 hF_154; obtain rfl : .bool (decide (t_125 < 0)) = v_155 := Eq.symm hF_154
              replace S1 := S1.put (by decide : 91 < 211) (.bool (decide (t_125 < 0)))
              refine fill_nil S1 ?_; clear S1; intro a_ S1
              rw [show (decide (t_125 < 0)) = true from hl0] at S1
              exact RPost.one (v := undef) S1 tys tys_ok rfl (by kernel_rfl) S.defers ⟨fun k_ => absurd k_ hc0, fun _ => rfl⟩ (Below.refl _ _)
            refine RunAll.cons (cndF (decide (t_125 < 0)) false (isEo .bool (Kx K w.heap.size [some b_52]) y_132)) [(cndF (decide (t_125 < 0)) false (eqv ((.slice (some ⟨b_52, 0, .none⟩) m_51.1 m_51.2))), 92), (cndF (decide (t_125 < 0)) false (isI .i64 t_125), 93), (eqv (.bool (decide (t_125 < 0))), 91)] rfl rfl ?_ ?_
            ·intro W_ hW
             by_cases hc0 : (decide (t_125 < 0)) = false
             ·have hl0 : (decide (t_125 < 0)) = false := hc0
              have S1 := S
              intro v_156 hF_157
              replace hF_157 := cndF.pos hF_157 hc0
              revert hF_157
              revert v_156
              intro v_159 hF_158; obtain rfl : (.slice (some ⟨b_52, 0, .none⟩) m_51.1 m_51.2) = v_159 := Eq.symm hF_158
              replace S1 := S1.put (by decide : 92 < 211) ((.slice (some ⟨b_52, 0, .none⟩) m_51.1 m_51.2))
              intro v_160 hF_161
              replace hF_161 := cndF.pos hF_161 hc0
              revert hF_161
              revert v_160
              rintro _ ⟨rfl, hF_162⟩
              replace S1 := S1.put (by decide : 93 < 211) (.int .i64 t_125)
              intro v_165 hF_164; obtain rfl : .bool (decide (t_125 < 0)) = v_165 := Eq.symm hF_164
              replace S1 := S1.put (by decide : 91 < 211) (.bool (decide (t_125 < 0)))
              refine fill_nil S1 ?_; clear S1; intro a_ S1
              replace O_105 := O_105.step hW
              replace W := W.step hW
              rw [show (decide (t_125 < 0)) = false from hl0] at S1
              have S0 := S.defers; replace S := S1; clear S1
              obtain ⟨ey_132, ey_138, _⟩ := (HG_131).1 hc0
              refine w_go S rfl (op_indexAddr_own S rfl ty32 rfl rfl rfl O_105 rfl ey_132 ?_)
              clear S; intro a g_166 H_168 R_167 S
              refine wpList_nil ?_
              exact RPost.mk_ S rfl S0 ⟨fun _ => ⟨_, rfl, R_167, W.ownlt (o := some b_52) (List.mem_of_getElem? (i := 0) rfl) H_168⟩, fun k_ => absurd hc0 k_⟩ (Below.refl _ _)
             ·have hl0 : (decide (t_125 < 0)) = true := (by simpa using hc0)
              have S1 := S
              intro v_169 hF_170
              obtain rfl := cndF.neg hF_170 hc0
              replace S1 := S1.put (by decide : 92 < 211) (undef)
              intro v_171 hF_172
              obtain rfl := cndF.neg hF_172 hc0
              replace S1 := S1.put (by decide : 93 < 211) (undef)
              intro v_174 hF_173; obtain rfl : .bool (decide (t_125 < 0)) = v_174 := Eq.symm hF_173
              replace S1 := S1.put (by decide : 91 < 211) (.bool (decide (t_125 < 0)))
              refine fill_nil S1 ?_; clear S1; intro a_ S1
              rw [show (decide (t_125 < 0)) = true from hl0] at S1
              exact RPost.one (v := undef) S1 tys tys_ok rfl (by kernel_rfl) S.defers ⟨fun k_ => absurd k_ hc0, fun _ => rfl⟩ (Below.refl _ _)
            refine RunAll.cons (cndF (decide (t_125 < 0)) false (eqv (.bool y_132))) [(cndF (decide (t_125 < 0)) false (isEo .bool (Kx K w.heap.size [some b_52]) y_132), 94), (eqv (.bool (decide (t_125 < 0))), 91)] rfl rfl ?_ ?_
            ·intro W_ hW
             by_cases hc0 : (decide (t_125 < 0)) = false
             ·have hl0 : (decide (t_125 < 0)) = false := hc0
              have S1 := S
              intro v_175 hF_176
              replace hF_176 := cndF.pos hF_176 hc0
              revert hF_176
              revert v_175
              rintro _ ⟨p_179, rfl, R_180, H_181⟩
              replace S1 := S1.put (by decide : 94 < 211) (.pointer (some p_179))
              intro v_183 hF_182; obtain rfl : .bool (decide (t_125 < 0)) = v_183 := Eq.symm hF_182
              replace S1 := S1.put (by decide : 91 < 211) (.bool (decide (t_125 < 0)))
              refine fill_nil S1 ?_; clear S1; intro a_ S1
              rw [show (decide (t_125 < 0)) = false from hl0] at S1
              have S0 := S.defers; replace S := S1; clear S1
              obtain ⟨ey_132, ey_138, _⟩ := (HG_131).1 hc0
              refine w_go S rfl (op_load (t := .bool) (x := y_132) S rfl ty4 rfl rfl rfl R_180 ?_)
              clear S; intro a v_184 R_185 S
              obtain rfl := RepV.bool R_185
              refine wpList_nil ?_
              exact RPost.mk_ S rfl S0 ⟨fun _ => rfl, fun k_ => absurd hc0 k_⟩ (Below.refl _ _)
             ·have hl0 : (decide (t_125 < 0)) = true := (by simpa using hc0)
              have S1 := S
              intro v_186 hF_187
              obtain rfl := cndF.neg hF_187 hc0
              replace S1 := S1.put (by decide : 94 < 211) (undef)
              intro v_189 hF_188; obtain rfl : .bool (decide (t_125 < 0)) = v_189 := Eq.symm hF_188
              replace S1 := S1.put (by decide : 91 < 211) (.bool (decide (t_125 < 0)))
              refine fill_nil S1 ?_; clear S1; intro a_ S1
              rw [show (decide (t_125 < 0)) = true from hl0] at S1
              exact RPost.one (v := undef) S1 tys tys_ok rfl (by kernel_rfl) S.defers ⟨fun k_ => absurd k_ hc0, fun _ => rfl⟩ (Below.refl _ _)
            refine RunAll.cons (cndF (decide (t_125 < 0)) false (isRep (.sl gt0) (Kx K w.heap.size [some b_52]) t_29.2.1)) [(eqv (.bool (decide (t_125 < 0))), 91)] rfl rfl ?_ ?_
            ·intro W_ hW
             by_cases hc0 : (decide (t_125 < 0)) = false
             ·have hl0 : (decide (t_125 < 0)) = false := hc0
              have S1 := S
              intro v_191 hF_190; obtain rfl : .bool (decide (t_125 < 0)) = v_191 := Eq.symm hF_190
              replace S1 := S1.put (by decide : 91 < 211) (.bool (decide (t_125 < 0)))
              refine fill_nil S1 ?_; clear S1; intro a_ S1
              replace R_34 := R_34.step hW
              rw [show (decide (t_125 < 0)) = false from hl0] at S1
              exact RPost.one (v := v_31) S1 tys tys_ok rfl (by kernel_rfl) S.defers ⟨fun _ => R_34, fun k_ => absurd hc0 k_⟩ (Below.refl _ _)
             ·have hl0 : (decide (t_125 < 0)) = true := (by simpa using hc0)
              have S1 := S
              intro v_193 hF_192; obtain rfl : .bool (decide (t_125 < 0)) = v_193 := Eq.symm hF_192
              replace S1 := S1.put (by decide : 91 < 211) (.bool (decide (t_125 < 0)))
              refine fill_nil S1 ?_; clear S1; intro a_ S1
              rw [show (decide (t_125 < 0)) = true from hl0] at S1
              exact RPost.one (v := undef) S1 tys tys_ok rfl (by kernel_rfl) S.defers ⟨fun k_ => absurd k_ hc0, fun _ => rfl⟩ (Below.refl _ _)
            refine RunAll.cons (cndF (decide (t_125 < 0)) false (isI .i64 c_101)) [(eqv (.bool (decide (t_125 < 0))), 91)] rfl rfl ?_ ?_
            ·intro W_ hW
             by_cases hc0 : (decide (t_125 < 0)) = false
             ·have hl0 : (decide (t_125 < 0)) = false := hc0
              have S1 := S
              intro v_195 hF_194; obtain rfl : .bool (decide (t_125 < 0)) = v_195 := Eq.symm hF_194
              replace S1 := S1.put (by decide : 91 < 211) (.bool (decide (t_125 < 0)))
              refine fill_nil S1 ?_; clear S1; intro a_ S1
              rw [show (decide (t_125 < 0)) = false from hl0] at S1
              exact RPost.one (v := .int .i64 c_101) S1 tys tys_ok rfl (by kernel_rfl) S.defers ⟨fun _ => ⟨rfl, G_102⟩, fun k_ => absurd hc0 k_⟩ (Below.refl _ _)
             ·have hl0 : (decide (t_125 < 0)) = true := (by simpa using hc0)
              have S1 := S
              intro v_197 hF_196; obtain rfl : .bool (decide (t_125 < 0)) = v_197 := Eq.symm hF_196
              replace S1 := S1.put (by decide : 91 < 211) (.bool (decide (t_125 < 0)))
              refine fill_nil S1 ?_; clear S1; intro a_ S1
              rw [show (decide (t_125 < 0)) = true from hl0] at S1
              exact RPost.one (v := undef) S1 tys tys_ok rfl (by kernel_rfl) S.defers ⟨fun k_ => absurd k_ hc0, fun _ => rfl⟩ (Below.refl _ _)
            refine RunAll.cons (cndF (decide (t_125 < 0)) false (isEl gt0 (Kx K w.heap.size [some b_52]) y_138)) [(cndF (decide (t_125 < 0)) false (isRep (.sl gt0) (Kx K w.heap.size [some b_52]) t_29.2.1), 96), (cndF (decide (t_125 < 0)) false (isI .i64 c_101), 97), (eqv (.bool (decide (t_125 < 0))), 91)] rfl rfl ?_ ?_
            ·intro W_ hW
             by_cases hc0 : (decide (t_125 < 0)) = false
             ·have hl0 : (decide (t_125 < 0)) = false := hc0
              have S1 := S
              intro v_198 hF_199
              replace hF_199 := cndF.pos hF_199 hc0
              revert hF_199
              revert v_198
              intro v_201 hF_200; replace hF_200 : RepV _ _ _ _ _ := hF_200
              replace S1 := S1.put (by decide : 96 < 211) (v_201)
              intro v_202 hF_203
              replace hF_203 := cndF.pos hF_203 hc0
              revert hF_203
              revert v_202
              rintro _ ⟨rfl, hF_204⟩
              replace S1 := S1.put (by decide : 97 < 211) (.int .i64 c_101)
              intro v_207 hF_206; obtain rfl : .bool (decide (t_125 < 0)) = v_207 := Eq.symm hF_206
              replace S1 := S1.put (by decide : 91 < 211) (.bool (decide (t_125 < 0)))
              refine fill_nil S1 ?_; clear S1; intro a_ S1
              replace W := W.step hW
              rw [show (decide (t_125 < 0)) = false from hl0] at S1
              have S0 := S.defers; replace S := S1; clear S1
              obtain ⟨ey_132, ey_138, _⟩ := (HG_131).1 hc0
              refine w_go S rfl (op_indexAddr S rfl ty26 rfl rfl rfl hF_200 rfl ey_138 ?_)
              clear S; intro a p_208 R_209 H_210 S
              refine wpList_nil ?_
              exact RPost.mk_ S rfl S0 ⟨fun _ => ⟨_, rfl, R_209, H_210⟩, fun k_ => absurd hc0 k_⟩ (Below.refl _ _)
             ·have hl0 : (decide (t_125 < 0)) = true := (by simpa using hc0)
              have S1 := S
              intro v_211 hF_212
              obtain rfl := cndF.neg hF_212 hc0
              replace S1 := S1.put (by decide : 96 < 211) (undef)
              intro v_213 hF_214
              obtain rfl := cndF.neg hF_214 hc0
              replace S1 := S1.put (by decide : 97 < 211) (undef)
              intro v_216 hF_215; obtain rfl : .bool (decide (t_125 < 0)) = v_216 := Eq.symm hF_215
              replace S1 := S1.put (by decide : 91 < 211) (.bool (decide (t_125 < 0)))
              refine fill_nil S1 ?_; clear S1; intro a_ S1
              rw [show (decide (t_125 < 0)) = true from hl0] at S1
              exact RPost.one (v := undef) S1 tys tys_ok rfl (by kernel_rfl) S.defers ⟨fun k_ => absurd k_ hc0, fun _ => rfl⟩ (Below.refl _ _)
            refine RunAll.cons (cndF (decide (t_125 < 0)) false (isEl .bool (Kx K w.heap.size [some b_52]) y_138.2)) [(cndF (decide (t_125 < 0)) false (isEl gt0 (Kx K w.heap.size [some b_52]) y_138), 98), (eqv (.bool (decide (t_125 < 0))), 91)] rfl rfl ?_ ?_
            ·intro W_ hW
             by_cases hc0 : (decide (t_125 < 0)) = false
             ·have hl0 : (decide (t_125 < 0)) = false := hc0
              have S1 := S
              intro v_217 hF_218
              replace hF_218 := cndF.pos hF_218 hc0
              revert hF_218
              revert v_217
              rintro _ ⟨p_221, rfl, R_222, H_223⟩
              replace S1 := S1.put (by decide : 98 < 211) (.pointer (some p_221))
              intro v_225 hF_224; obtain rfl : .bool (decide (t_125 < 0)) = v_225 := Eq.symm hF_224
              replace S1 := S1.put (by decide : 91 < 211) (.bool (decide (t_125 < 0)))
              refine fill_nil S1 ?_; clear S1; intro a_ S1
              rw [show (decide (t_125 < 0)) = false from hl0] at S1
              exact RPost.one (v := .pointer (some (p_221.add (coff gf0 1)))) S1 tys tys_ok rfl (by kernel_rfl) S.defers ⟨fun _ => ⟨_, rfl, (RepAt.add 1 (RepAt.st (t := gf0) R_222)), (by simpa [Addr.add] using H_223)⟩, fun k_ => absurd hc0 k_⟩ (Below.refl _ _)
             ·have hl0 : (decide (t_125 < 0)) = true := (by simpa using hc0)
              have S1 := S
              intro v_226 hF_227
              obtain rfl := cndF.neg hF_227 hc0
              replace S1 := S1.put (by decide : 98 < 211) (undef)
              intro v_229 hF_228; obtain rfl : .bool (decide (t_125 < 0)) = v_229 := Eq.symm hF_228
              replace S1 := S1.put (by decide : 91 < 211) (.bool (decide (t_125 < 0)))
              refine fill_nil S1 ?_; clear S1; intro a_ S1
              rw [show (decide (t_125 < 0)) = true from hl0] at S1
              exact RPost.one (v := undef) S1 tys tys_ok rfl (by kernel_rfl) S.defers ⟨fun k_ => absurd k_ hc0, fun _ => rfl⟩ (Below.refl _ _)
            refine RunAll.cons (cndF (decide (t_125 < 0)) false (eqv (.bool y_138.2))) [(cndF (decide (t_125 < 0)) false (isEl .bool (Kx K w.heap.size [some b_52]) y_138.2), 99), (eqv (.bool (decide (t_125 < 0))), 91)] rfl rfl ?_ ?_
            ·intro W_ hW
             by_cases hc0 : (decide (t_125 < 0)) = false
             ·have hl0 : (decide (t_125 < 0)) = false := hc0
              have S1 := S
              intro v_230 hF_231
              replace hF_231 := cndF.pos hF_231 hc0
              revert hF_231
              revert v_230
              rintro _ ⟨p_234, rfl, R_235, H_236⟩
              replace S1 := S1.put (by decide : 99 < 211) (.pointer (some p_234))
              intro v_238 hF_237; obtain rfl : .bool (decide (t_125 < 0)) = v_238 := Eq.symm hF_237
              replace S1 := S1.put (by decide : 91 < 211) (.bool (decide (t_125 < 0)))
              refine fill_nil S1 ?_; clear S1; intro a_ S1
              rw [show (decide (t_125 < 0)) = false from hl0] at S1
              have S0 := S.defers; replace S := S1; clear S1
              obtain ⟨ey_132, ey_138, _⟩ := (HG_131).1 hc0
              refine w_go S rfl (op_load (t := .bool) (x := y_138.2) S rfl ty4 rfl rfl rfl R_235 ?_)
              clear S; intro a v_239 R_240 S
              obtain rfl := RepV.bool R_240
              refine wpList_nil ?_
              exact RPost.mk_ S rfl S0 ⟨fun _ => rfl, fun k_ => absurd hc0 k_⟩ (Below.refl _ _)
             ·have hl0 : (decide (t_125 < 0)) = true := (by simpa using hc0)
              have S1 := S
              intro v_241 hF_242
              obtain rfl := cndF.neg hF_242 hc0
              replace S1 := S1.put (by decide : 99 < 211) (undef)
              intro v_244 hF_243; obtain rfl : .bool (decide (t_125 < 0)) = v_244 := Eq.symm hF_243
              replace S1 := S1.put (by decide : 91 < 211) (.bool (decide (t_125 < 0)))
              refine fill_nil S1 ?_; clear S1; intro a_ S1
              rw [show (decide (t_125 < 0)) = true from hl0] at S1
              exact RPost.one (v := undef) S1 tys tys_ok rfl (by kernel_rfl) S.defers ⟨fun k_ => absurd k_ hc0, fun _ => rfl⟩ (Below.refl _ _)
            refine RunAll.cons (cndF (decide (t_125 < 0)) false (eqv (.bool (!(y_132 == y_138.2))))) [(cndF (decide (t_125 < 0)) false (eqv (.bool y_132)), 95), (cndF (decide (t_125 < 0)) false (eqv (.bool y_138.2)), 100), (eqv (.bool (decide (t_125 < 0))), 91)] rfl rfl ?_ ?_
            ·intro W_ hW
             by_cases hc0 : (decide (t_125 < 0)) = false
             ·have hl0 : (decide (t_125 < 0)) = false := hc0
              have S1 := S
              intro v_245 hF_246
              replace hF_246 := cndF.pos hF_246 hc0
              revert hF_246
              revert v_245
              intro v_248 hF_247; obtain rfl : .bool y_132 = v_248 := Eq.symm hF_247
              replace S1 := S1.put (by decide : 95 < 211) (.bool y_132)
              intro v_249 hF_250
              replace hF_250 := cndF.pos hF_250 hc0
              revert hF_250
              revert v_249
              intro v_252 hF_251; obtain rfl : .bool y_138.2 = v_252 := Eq.symm hF_251
              replace S1 := S1.put (by decide : 100 < 211) (.bool y_138.2)
              intro v_254 hF_253; obtain rfl : .bool (decide (t_125 < 0)) = v_254 := Eq.symm hF_253
              replace S1 := S1.put (by decide : 91 < 211) (.bool (decide (t_125 < 0)))
              refine fill_nil S1 ?_; clear S1; intro a_ S1
              rw [show (decide (t_125 < 0)) = false from hl0] at S1
              exact RPost.one (v := .bool (!(y_132 == y_138.2))) S1 tys tys_ok rfl (by kernel_rfl) S.defers ⟨fun _ => rfl, fun k_ => absurd hc0 k_⟩ (Below.refl _ _)
             ·have hl0 : (decide (t_125 < 0)) = true := (by simpa using hc0)
              have S1 := S
              intro v_255 hF_256
              obtain rfl := cndF.neg hF_256 hc0
              replace S1 := S1.put (by decide : 95 < 211) (undef)
              intro v_257 hF_258
              obtain rfl := cndF.neg hF_258 hc0
              replace S1 := S1.put (by decide : 100 < 211) (undef)
              intro v_260 hF_259; obtain rfl : .bool (decide (t_125 < 0)) = v_260 := Eq.symm hF_259
              replace S1 := S1.put (by decide : 91 < 211) (.bool (decide (t_125 < 0)))
              refine fill_nil S1 ?_; clear S1; intro a_ S1
              rw [show (decide (t_125 < 0)) = true from hl0] at S1
              exact RPost.one (v := undef) S1 tys tys_ok rfl (by kernel_rfl) S.defers ⟨fun k_ => absurd k_ hc0, fun _ => rfl⟩ (Below.refl _ _)
            refine RunAll.cons (eqv (.bool q_130)) [(eqv (.bool (decide (t_125 < 0))), 91), (cndF (decide (t_125 < 0)) false (eqv (.bool (!(y_132 == y_138.2)))), 101)] rfl rfl ?_ ?_
            ·intro W_ hW
             by_cases hc0 : (decide (t_125 < 0)) = false
             ·have hl0 : (decide (t_125 < 0)) = false := hc0
              have S1 := S
              intro v_262 hF_261; obtain rfl : .bool (decide (t_125 < 0)) = v_262 := Eq.symm hF_261
              replace S1 := S1.put (by decide : 91 < 211) (.bool (decide (t_125 < 0)))
              intro v_263 hF_264
              replace hF_264 := cndF.pos hF_264 hc0
              revert hF_264
              revert v_263
              intro v_266 hF_265; obtain rfl : .bool (!(y_132 == y_138.2)) = v_266 := Eq.symm hF_265
              replace S1 := S1.put (by decide : 101 < 211) (.bool (!(y_132 == y_138.2)))
              refine fill_nil S1 ?_; clear S1; intro a_ S1
              rw [show (decide (t_125 < 0)) = false from hl0] at S1
              exact RPost.one (v := .bool (!(y_132 == y_138.2))) S1 tys tys_ok rfl (by kernel_rfl) S.defers (congrArg Value.bool ((HG_131).1 hc0).2.2) (Below.refl _ _)
             ·have hl0 : (decide (t_125 < 0)) = true := (by simpa using hc0)
              have S1 := S
              intro v_268 hF_267; obtain rfl : .bool (decide (t_125 < 0)) = v_268 := Eq.symm hF_267
              replace S1 := S1.put (by decide : 91 < 211) (.bool (decide (t_125 < 0)))
              intro v_269 hF_270
              obtain rfl := cndF.neg hF_270 hc0
              replace S1 := S1.put (by decide : 101 < 211) (undef)
              refine fill_nil S1 ?_; clear S1; intro a_ S1
              rw [show (decide (t_125 < 0)) = true from hl0] at S1
              exact RPost.one (v := .bool true) S1 tys tys_ok rfl (by kernel_rfl) S.defers (congrArg Value.bool ((HG_131).2 hc0)) (Below.refl _ _)
            exact trivial
           intro w_271 hb_272
           refine EndE.some_ rfl ?_
           rintro _ ⟨rfl, hF_273⟩
           replace S := S.put (by decide : 89 < 211) (.int .i64 t_125)
           refine EndE.some_ rfl ?_
           intro v_276 hF_275; obtain rfl : .bool (decide (t_125 < 0)) = v_276 := Eq.symm hF_275
           replace S := S.put (by decide : 90 < 211) (.bool (decide (t_125 < 0)))
           refine EndE.some_ rfl ?_
           intro v_278 hF_277; obtain rfl : .bool (decide (t_125 < 0)) = v_278 := Eq.symm hF_277
           replace S := S.put (by decide : 91 < 211) (.bool (decide (t_125 < 0)))
           refine EndE.some_ rfl ?_
           intro v_279 _
           replace S := S.put (by decide : 92 < 211) (v_279)
           refine EndE.some_ rfl ?_
           intro v_280 _
           replace S := S.put (by decide : 93 < 211) (v_280)
           refine EndE.some_ rfl ?_
           intro v_281 _
           replace S := S.put (by decide : 94 < 211) (v_281)
           refine EndE.some_ rfl ?_
           intro v_282 _
           replace S := S.put (by decide : 95 < 211) (v_282)
           refine EndE.some_ rfl ?_
           intro v_283 _
           replace S := S.put (by decide : 96 < 211) (v_283)
           refine EndE.some_ rfl ?_
           intro v_284 _
           replace S := S.put (by decide : 97 < 211) (v_284)
           refine EndE.some_ rfl ?_
           intro v_285 _
           replace S := S.put (by decide : 98 < 211) (v_285)
           refine EndE.some_ rfl ?_
           intro v_286 _
           replace S := S.put (by decide : 99 < 211) (v_286)
           refine EndE.some_ rfl ?_
           intro v_287 _
           replace S := S.put (by decide : 100 < 211) (v_287)
           refine EndE.some_ rfl ?_
           intro v_288 _
           replace S := S.put (by decide : 101 < 211) (v_288)
           refine EndE.some_ rfl ?_
           intro v_290 hF_289; obtain rfl : .bool q_130 = v_290 := Eq.symm hF_289
           replace S := S.put (by decide : 102 < 211) (.bool q_130)
           refine endE_nil S ?_; clear S; intro a S
           replace R0 := R0.step hb_272
           replace R_33 := R_33.step hb_272
           replace R_34 := R_34.step hb_272
           replace R_48 := R_48.step hb_272
           replace O_105 := O_105.step hb_272
           replace W := W.step hb_272
           refine then_n ?_
           replace S := S.sub (l' := [(102, .bool q_130), (13, .int .i64 t_125), (12, .int .i64 c_101), (0, v0), (4, .int .i64 c_7), (5, v_30), (6, v_31), (8, v_47), (9, (.slice (some ⟨b_52, 0, .none⟩) m_51.1 m_51.2))]) (by exact ⟨rfl, rfl, rfl, rfl, rfl, rfl, rfl, rfl, rfl, trivial⟩)
           refine wp_cond_split (S.eval (show ev _ _ = some (.bool q_130) from rfl)) ?_ ?_
           ·intro hc
            rw [if_pos hc] at hl_116
            refine wp_seq ?_
            refine wp_region_lit ?_
            refine wl_pureK (l' := [(2, .bool false)]) S tys tys_ok 1 [2] (by kernel_rfl) ?_
            clear S; intro a S
            refine wpList_nil ?_
            refine then_n ?_
            refine wp_ret ?_
            refine then_r ?_
            refine blk_r ?_
            refine then_r ?_
            refine then_r ?_
            refine blk_r ?_
            refine then_r ?_
            refine then_r ?_
            refine blk_r ?_
            refine then_r ?_
            refine then_r ?_
            refine blk_r ?_
            refine then_r ?_
            refine then_r ?_
            obtain rfl := Option.some.inj hl_116
            have hq_ := lr_inr2 hl_20; subst hq_
            obtain rfl := lr_inr h
            exact b_ret1 S rfl rfl ⟨_, rfl, RepV.mkBool, W.below⟩
           ·intro hc
            rw [if_neg (Bool.eq_false_iff.1 hc)] at hl_116
            refine wp_skip ?_
            refine then_n ?_
            replace S := S.sub (l' := [(13, .int .i64 t_125), (12, .int .i64 c_101), (0, v0), (4, .int .i64 c_7), (5, v_30), (6, v_31), (8, v_47), (9, (.slice (some ⟨b_52, 0, .none⟩) m_51.1 m_51.2))]) (by exact ⟨rfl, rfl, rfl, rfl, rfl, rfl, rfl, rfl, trivial⟩)
            refine wp_seq ?_
            refine wp_region_lit ?_
            refine wl_pure (l' := [(106, .int .i64 c_101), (105, v_31), (104, .int .i64 t_125), (103, (.slice (some ⟨b_52, 0, .none⟩) m_51.1 m_51.2)), (13, .int .i64 t_125), (12, .int .i64 c_101), (0, v0), (4, .int .i64 c_7), (5, v_30), (6, v_31), (8, v_47), (9, (.slice (some ⟨b_52, 0, .none⟩) m_51.1 m_51.2))]) S tys tys_ok 4 (by kernel_rfl) ?_
            clear S; intro a S
            obtain ⟨y_291, ey_291, hl_116⟩ := bindS hl_116
            refine w_go S rfl (op_indexAddr S rfl ty26 rfl rfl rfl R_34 rfl ey_291 ?_)
            clear S; intro a p_292 R_293 H_294 S
            refine wl_pureK (l' := [(108, .pointer (some (p_292.add (coff gf0 1)))), (104, .int .i64 t_125), (103, (.slice (some ⟨b_52, 0, .none⟩) m_51.1 m_51.2)), (13, .int .i64 t_125), (12, .int .i64 c_101), (0, v0), (4, .int .i64 c_7), (5, v_30), (6, v_31), (8, v_47), (9, (.slice (some ⟨b_52, 0, .none⟩) m_51.1 m_51.2))]) S tys tys_ok 1 [108, 104, 103, 13, 12, 0, 4, 5, 6, 8, 9] (by kernel_rfl) ?_
            clear S; intro a S
            refine w_go S rfl (op_load (t := .bool) (x := y_291.2) S rfl ty4 rfl rfl rfl (RepAt.add 1 (RepAt.st (t := gf0) R_293)) ?_)
            clear S; intro a v_295 R_296 S
            obtain rfl := RepV.bool R_296
            refine wl_pure (l' := [(110, .bool (!y_291.2)), (109, .bool y_291.2), (108, .pointer (some (p_292.add (coff gf0 1)))), (104, .int .i64 t_125), (103, (.slice (some ⟨b_52, 0, .none⟩) m_51.1 m_51.2)), (13, .int .i64 t_125), (12, .int .i64 c_101), (0, v0), (4, .int .i64 c_7), (5, v_30), (6, v_31), (8, v_47), (9, (.slice (some ⟨b_52, 0, .none⟩) m_51.1 m_51.2))]) S tys tys_ok 1 (by kernel_rfl) ?_
            clear S; intro a S
            obtain ⟨y_297, ey_297, hl_116⟩ := bindS hl_116
            refine w_go S rfl (op_indexAddr_own S rfl ty32 rfl rfl rfl O_105 rfl ey_297 ?_)
            clear S; intro a g_298 H_300 R_299 S
            refine w_go S rfl (op_store_own (t' := .bool) S rfl rfl ty4 rfl rfl rfl O_105 H_300 0 rfl (idx_some ey_297).2.1 Ln.whole (RepV.mkBool : RepV .bool w_271 (Kx K w.heap.size [some b_52]) _ (!y_291.2)) ?_)
            intro w_301 hw_302 hm_304 O_303
            replace R0 := R0.wrote hw_302 hm_304
            replace R_33 := R_33.wrote hw_302 hm_304
            replace R_34 := R_34.wrote hw_302 hm_304
            replace R_48 := R_48.wrote hw_302 hm_304
            replace W := W.wrote hw_302 hm_304
            replace O_303 : Ow .bool 4 w_301 w.heap.size (Kx K w.heap.size [some b_52]) (.slice (some ⟨b_52, 0, .none⟩) m_51.1 m_51.2) (c_103.set t_125.toNat (!y_291.2)) (some m_51.2) := O_303
            refine wpList_nil ?_
            refine then_n ?_
            replace S := S.sub (l' := [(13, .int .i64 t_125), (12, .int .i64 c_101), (0, v0), (4, .int .i64 c_7), (5, v_30), (6, v_31), (8, v_47), (9, (.slice (some ⟨b_52, 0, .none⟩) m_51.1 m_51.2))]) (by exact ⟨rfl, rfl, rfl, rfl, rfl, rfl, rfl, rfl, trivial⟩)
            refine wp_seq ?_
            refine wp_region_lit ?_
            refine wl_pure (l' := [(14, .int .i64 0), (13, .int .i64 t_125), (12, .int .i64 c_101), (0, v0), (4, .int .i64 c_7), (5, v_30), (6, v_31), (8, v_47), (9, (.slice (some ⟨b_52, 0, .none⟩) m_51.1 m_51.2))]) S tys tys_ok 1 (by kernel_rfl) ?_
            clear S; intro a S
            refine wpList_nil ?_
            refine then_n ?_
            obtain ⟨y_309, ey_309, hl_116⟩ := bindS hl_116
            refine wp_cut_ (fun a_ w_ => ∃ s_310 : Unit, y_309 = .inl s_310 ∧ (St 211 a_ [(0, v0), (4, .int .i64 c_7), (5, v_30), (6, v_31), (8, v_47), (9, (.slice (some ⟨b_52, 0, .none⟩) m_51.1 m_51.2)), (12, .int .i64 c_101)] ∧ Wd w w_ [some b_52] ∧ RepV (.sl gt1) w_ (Kx K w.heap.size [some b_52]) v0 x0 ∧ RepV (.sl gt2) w_ (Kx K w.heap.size [some b_52]) v_30 t_29.1 ∧ RepV (.sl gt0) w_ (Kx K w.heap.size [some b_52]) v_31 t_29.2.1 ∧ RepV (.sl gt2) w_ (Kx K w.heap.size [some b_52]) v_47 j_46 ∧ Ow .bool 4 w_ w.heap.size (Kx K w.heap.size [some b_52]) (.slice (some ⟨b_52, 0, .none⟩) m_51.1 m_51.2) (c_103.set t_125.toNat (!y_291.2)) (some m_51.2))) ?_ ?_
            ·refine wp_block ?_
             refine wp_loop_n (fun m_ a_ w_ => ∃ (c_305 : Int) , St 211 a_ [(14, .int .i64 c_305), (13, .int .i64 t_125), (12, .int .i64 c_101), (0, v0), (4, .int .i64 c_7), (5, v_30), (6, v_31), (8, v_47), (9, (.slice (some ⟨b_52, 0, .none⟩) m_51.1 m_51.2))] ∧ Wd w w_ [some b_52] ∧ InR .i64 c_305 ∧ RepV (.sl gt1) w_ (Kx K w.heap.size [some b_52]) v0 x0 ∧ RepV (.sl gt2) w_ (Kx K w.heap.size [some b_52]) v_30 t_29.1 ∧ RepV (.sl gt0) w_ (Kx K w.heap.size [some b_52]) v_31 t_29.2.1 ∧ RepV (.sl gt2) w_ (Kx K w.heap.size [some b_52]) v_47 j_46 ∧ Ow .bool 4 w_ w.heap.size (Kx K w.heap.size [some b_52]) (.slice (some ⟨b_52, 0, .none⟩) m_51.1 m_51.2) (c_103.set t_125.toNat (!y_291.2)) (some m_51.2) ∧ p3_l4 n j_46 c_103 t_125 y_291 m_ c_305 = some y_309) n ?_ ?_
             ·skip
              exact ⟨0, ⟨S.sub (by exact ⟨rfl, rfl, rfl, rfl, rfl, rfl, rfl, rfl, rfl, trivial⟩), W, (by decide), R0, R_33, R_34, R_48, O_303, ey_309⟩⟩
             ·clear S W; rintro m_311 a w_313 ⟨c_305, S, W, G_306, R0, R_33, R_34, R_48, O_303, hl_312⟩
              cases m_311 with
              | zero => exact absurd hl_312 (by simp [p3_l4])
              | succ m_311 =>
               refine ⟨m_311, rfl, ?_⟩
               rw [p3_l4] at hl_312
               refine wp_seq ?_
               refine wp_seq ?_
               refine wp_region_lit ?_
               refine wl_pure (l' := [(113, v_47), (112, .int .i64 c_305), (14, .int .i64 c_305), (13, .int .i64 t_125), (12, .int .i64 c_101), (0, v0), (4, .int .i64 c_7), (5, v_30), (6, v_31), (8, v_47), (9, (.slice (some ⟨b_52, 0, .none⟩) m_51.1 m_51.2))]) S tys tys_ok 2 (by kernel_rfl) ?_
               clear S; intro a S
               refine w_go S rfl (op_len (K := _) S rfl ty25 rfl rfl rfl R_48 ?_)
               clear S; intro a G_314 S
               refine wl_pureK (l' := [(115, .bool (decide (c_305 < (lenI j_46)))), (14, .int .i64 c_305), (13, .int .i64 t_125), (12, .int .i64 c_101), (0, v0), (4, .int .i64 c_7), (5, v_30), (6, v_31), (8, v_47), (9, (.slice (some ⟨b_52, 0, .none⟩) m_51.1 m_51.2))]) S tys tys_ok 1 [115, 14, 13, 12, 0, 4, 5, 6, 8, 9] (by kernel_rfl) ?_
               clear S; intro a S
               refine wpList_nil ?_
               refine then_n ?_
               refine wp_cond_split (S.eval (show ev _ _ = some (.bool (decide (c_305 < (lenI j_46)))) from rfl)) ?_ ?_
               ·intro hc
                rw [if_pos hc] at hl_312
                refine wp_skip ?_
                refine then_n ?_
                replace S := S.sub (l' := [(14, .int .i64 c_305), (13, .int .i64 t_125), (12, .int .i64 c_101), (0, v0), (4, .int .i64 c_7), (5, v_30), (6, v_31), (8, v_47), (9, (.slice (some ⟨b_52, 0, .none⟩) m_51.1 m_51.2))]) (by exact ⟨rfl, rfl, rfl, rfl, rfl, rfl, rfl, rfl, rfl, trivial⟩)
                refine wp_seq ?_
                refine wp_block ?_
                refine wp_seq ?_
                obtain ⟨y_315, ey_315, hl_312⟩ := bindS hl_312
                obtain ⟨q_321, eq_321, hl_312⟩ := bindS hl_312
                obtain ⟨y_323, HG_322⟩ : ∃ (y_323 : Bool) , (y_315 = true → (idx (c_103.set t_125.toNat (!y_291.2)) c_305) = some y_323 ∧ (!y_323) = q_321) ∧ (¬ y_315 = true → false = q_321) := by
                 by_cases hc : y_315 = true
                 ·rw [if_pos hc] at eq_321
                  obtain ⟨y_323, ey_323, eq_321⟩ := bindS eq_321
                  exact ⟨y_323, ⟨fun _ => ⟨ey_323, Option.some.inj eq_321⟩, fun k_ => absurd hc k_⟩⟩
                 ·rw [if_neg hc] at eq_321
                  exact ⟨default, ⟨fun k_ => absurd k_ hc, fun _ => Option.some.inj eq_321⟩⟩
                obtain ⟨q_329, eq_329, hl_312⟩ := bindS hl_312
                obtain ⟨y_331, y_337, t_343, HG_330⟩ : ∃ (y_331 : (Sl (Int)) × Bool × Bool × Bool × Int) (y_337 : (Sl (Int)) × Bool × Bool × Bool × Int) (t_343 : (Bool)) , (q_321 = true → (idx j_46.xs t_125) = some y_331 ∧ (idx j_46.xs c_305) = some y_337 ∧ (p11 n y_331.1 y_337.1) = some t_343 ∧ t_343 = q_329) ∧ (¬ q_321 = true → false = q_329) := by
                 by_cases hc : q_321 = true
                 ·rw [if_pos hc] at eq_329
                  obtain ⟨y_331, ey_331, eq_329⟩ := bindS eq_329
                  obtain ⟨y_337, ey_337, eq_329⟩ := bindS eq_329
                  obtain ⟨t_343, et_343, eq_329⟩ := bindS eq_329
                  exact ⟨y_331, y_337, t_343, ⟨fun _ => ⟨ey_331, ey_337, et_343, Option.some.inj eq_329⟩, fun k_ => absurd hc k_⟩⟩
                 ·rw [if_neg hc] at eq_329
                  exact ⟨default, default, default, ⟨fun k_ => absurd k_ hc, fun _ => Option.some.inj eq_329⟩⟩
                obtain ⟨q_348, eq_348, hl_312⟩ := bindS hl_312
                obtain ⟨y_350, q_356, q_364, HG_349⟩ : ∃ (y_350 : Bool) (q_356 : Bool) (q_364 : Bool) , (q_329 = false → (idx (c_103.set t_125.toNat (!y_291.2)) c_305) = some y_350 ∧ (if y_350 = true then (idx (c_103.set t_125.toNat (!y_291.2)) t_125).bind fun y_358 => some (!y_358) else some false) = some q_356 ∧ (if q_356 = true then (idx j_46.xs c_305).bind fun y_366 => (idx j_46.xs t_125).bind fun y_372 => (p11 n y_366.1 y_372.1).bind fun t_378 => some t_378 else some false) = some q_364 ∧ q_364 = q_348) ∧ (¬ q_329 = false → true = q_348) := by
                 by_cases hc : q_329 = false
                 ·rw [if_pos hc] at eq_348
                  obtain ⟨y_350, ey_350, eq_348⟩ := bindS eq_348
                  obtain ⟨q_356, eq_356, eq_348⟩ := bindS eq_348
                  obtain ⟨q_364, eq_364, eq_348⟩ := bindS eq_348
                  exact ⟨y_350, q_356, q_364, ⟨fun _ => ⟨ey_350, eq_356, eq_364, Option.some.inj eq_348⟩, fun k_ => absurd hc k_⟩⟩
                 ·rw [if_neg hc] at eq_348
                  exact ⟨default, default, default, ⟨fun k_ => absurd k_ hc, fun _ => Option.some.inj eq_348⟩⟩
                obtain ⟨y_358, HG_357⟩ : ∃ (y_358 : Bool) , (q_329 = false → (y_350 = true → (idx (c_103.set t_125.toNat (!y_291.2)) t_125) = some y_358 ∧ (!y_358) = q_356) ∧ (¬ y_350 = true → false = q_356)) := by
                 by_cases ho2 : q_329 = false
                 ·skip
                  have eq_356 := (HG_349.1 ho2).2.1
                  by_cases hc : y_350 = true
                  ·rw [if_pos hc] at eq_356
                   obtain ⟨y_358, ey_358, eq_356⟩ := bindS eq_356
                   exact ⟨y_358, fun _ => ⟨fun _ => ⟨ey_358, Option.some.inj eq_356⟩, fun k_ => absurd hc k_⟩⟩
                  ·rw [if_neg hc] at eq_356
                   exact ⟨default, fun _ => ⟨fun k_ => absurd k_ hc, fun _ => Option.some.inj eq_356⟩⟩
                 ·exact ⟨default, fun k_ => absurd k_ ho2⟩
                obtain ⟨y_366, y_372, t_378, HG_365⟩ : ∃ (y_366 : (Sl (Int)) × Bool × Bool × Bool × Int) (y_372 : (Sl (Int)) × Bool × Bool × Bool × Int) (t_378 : (Bool)) , (q_329 = false → (q_356 = true → (idx j_46.xs c_305) = some y_366 ∧ (idx j_46.xs t_125) = some y_372 ∧ (p11 n y_366.1 y_372.1) = some t_378 ∧ t_378 = q_364) ∧ (¬ q_356 = true → false = q_364)) := by
                 by_cases ho2 : q_329 = false
                 ·skip
                  have eq_364 := (HG_349.1 ho2).2.2.1
                  by_cases hc : q_356 = true
                  ·rw [if_pos hc] at eq_364
                   obtain ⟨y_366, ey_366, eq_364⟩ := bindS eq_364
                   obtain ⟨y_372, ey_372, eq_364⟩ := bindS eq_364
                   obtain ⟨t_378, et_378, eq_364⟩ := bindS eq_364
                   exact ⟨y_366, y_372, t_378, fun _ => ⟨fun _ => ⟨ey_366, ey_372, et_378, Option.some.inj eq_364⟩, fun k_ => absurd hc k_⟩⟩
                  ·rw [if_neg hc] at eq_364
                   exact ⟨default, default, default, fun _ => ⟨fun k_ => absurd k_ hc, fun _ => Option.some.inj eq_364⟩⟩
                 ·exact ⟨default, default, default, fun k_ => absurd k_ ho2⟩
                have hR : Rel (Kx K w.heap.size [some b_52]) Bl := Bl.rel _
                refine wp_region_all hR [eqv ((.slice (some ⟨b_52, 0, .none⟩) m_51.1 m_51.2)), isI .i64 t_125, isEo .bool (Kx K w.heap.size [some b_52]) y_315, eqv (.bool y_315), eqv (.bool y_315), cndF y_315 true (eqv ((.slice (some ⟨b_52, 0, .none⟩) m_51.1 m_51.2))), cndF y_315 true (isI .i64 c_305), cndF y_315 true (isEo .bool (Kx K w.heap.size [some b_52]) y_323), cndF y_315 true (eqv (.bool y_323)), cndF y_315 true (eqv (.bool (!y_323))), eqv (.bool q_321), eqv (.bool q_321), cndF q_321 true (isRep (.sl gt2) (Kx K w.heap.size [some b_52]) j_46), cndF q_321 true (isI .i64 t_125), cndF q_321 true (isEl gt2 (Kx K w.heap.size [some b_52]) y_331), cndF q_321 true (isEl (.sl (.int .u8)) (Kx K w.heap.size [some b_52]) y_331.1), cndF q_321 true (isRep (.sl (.int .u8)) (Kx K w.heap.size [some b_52]) y_331.1), cndF q_321 true (isRep (.sl gt2) (Kx K w.heap.size [some b_52]) j_46), cndF q_321 true (isI .i64 c_305), cndF q_321 true (isEl gt2 (Kx K w.heap.size [some b_52]) y_337), cndF q_321 true (isEl (.sl (.int .u8)) (Kx K w.heap.size [some b_52]) y_337.1), cndF q_321 true (isRep (.sl (.int .u8)) (Kx K w.heap.size [some b_52]) y_337.1), cndF q_321 true (eqv (.bool t_343)), eqv (.bool q_329), eqv (.bool q_329), cndF q_329 false (eqv ((.slice (some ⟨b_52, 0, .none⟩) m_51.1 m_51.2))), cndF q_329 false (isI .i64 c_305), cndF q_329 false (isEo .bool (Kx K w.heap.size [some b_52]) y_350), cndF q_329 false (eqv (.bool y_350)), cndF q_329 false (eqv (.bool y_350)), cndF q_329 false (cndF y_350 true (eqv ((.slice (some ⟨b_52, 0, .none⟩) m_51.1 m_51.2)))), cndF q_329 false (cndF y_350 true (isI .i64 t_125)), cndF q_329 false (cndF y_350 true (isEo .bool (Kx K w.heap.size [some b_52]) y_358)), cndF q_329 false (cndF y_350 true (eqv (.bool y_358))), cndF q_329 false (cndF y_350 true (eqv (.bool (!y_358)))), cndF q_329 false (eqv (.bool q_356)), cndF q_329 false (eqv (.bool q_356)), cndF q_329 false (cndF q_356 true (isRep (.sl gt2) (Kx K w.heap.size [some b_52]) j_46)), cndF q_329 false (cndF q_356 true (isI .i64 c_305)), cndF q_329 false (cndF q_356 true (isEl gt2 (Kx K w.heap.size [some b_52]) y_366)), cndF q_329 false (cndF q_356 true (isEl (.sl (.int .u8)) (Kx K w.heap.size [some b_52]) y_366.1)), cndF q_329 false (cndF q_356 true (isRep (.sl (.int .u8)) (Kx K w.heap.size [some b_52]) y_366.1)), cndF q_329 false (cndF q_356 true (isRep (.sl gt2) (Kx K w.heap.size [some b_52]) j_46)), cndF q_329 false (cndF q_356 true (isI .i64 t_125)), cndF q_329 false (cndF q_356 true (isEl gt2 (Kx K w.heap.size [some b_52]) y_372)), cndF q_329 false (cndF q_356 true (isEl (.sl (.int .u8)) (Kx K w.heap.size [some b_52]) y_372.1)), cndF q_329 false (cndF q_356 true (isRep (.sl (.int .u8)) (Kx K w.heap.size [some b_52]) y_372.1)), cndF q_329 false (cndF q_356 true (eqv (.bool t_378))), cndF q_329 false (eqv (.bool q_364)), eqv (.bool q_348)] [[], [], [(0, 118), (1, 119)], [(2, 120)], [(3, 121)], [(4, 122)], [(4, 122)], [(5, 123), (6, 124), (4, 122)], [(7, 125), (4, 122)], [(8, 126), (4, 122)], [(4, 122), (9, 127)], [(10, 128)], [(11, 129)], [(11, 129)], [(12, 130), (13, 131), (11, 129)], [(14, 132), (11, 129)], [(15, 133), (11, 129)], [(11, 129)], [(11, 129)], [(17, 135), (18, 136), (11, 129)], [(19, 137), (11, 129)], [(20, 138), (11, 129)], [(16, 134), (21, 139), (11, 129)], [(11, 129), (22, 140)], [(23, 141)], [(24, 142)], [(24, 142)], [(25, 143), (26, 144), (24, 142)], [(27, 145), (24, 142)], [(28, 146), (24, 142)], [(29, 147)], [(29, 147)], [(30, 148), (31, 149), (29, 147)], [(32, 150), (29, 147)], [(33, 151), (29, 147)], [(29, 147), (34, 152), (24, 142)], [(35, 153), (24, 142)], [(36, 154)], [(36, 154)], [(37, 155), (38, 156), (36, 154)], [(39, 157), (36, 154)], [(40, 158), (36, 154)], [(36, 154)], [(36, 154)], [(42, 160), (43, 161), (36, 154)], [(44, 162), (36, 154)], [(45, 163), (36, 154)], [(41, 159), (46, 164), (36, 154)], [(36, 154), (47, 165), (24, 142)], [(24, 142), (48, 166)]] (by kernel_rfl) (by rw [S.size]; kernel_rfl) (by kernel_rfl) (by kernel_rfl) rfl ⟨(stab_eqv _), stab_I, stab_eo, (stab_eqv _), (stab_eqv _), (stab_cnd (stab_eqv _)), (stab_cnd stab_I), (stab_cnd stab_eo), (stab_cnd (stab_eqv _)), (stab_cnd (stab_eqv _)), (stab_eqv _), (stab_eqv _), (stab_cnd (stab_rep hR)), (stab_cnd stab_I), (stab_cnd (stab_el hR)), (stab_cnd (stab_el hR)), (stab_cnd (stab_rep hR)), (stab_cnd (stab_rep hR)), (stab_cnd stab_I), (stab_cnd (stab_el hR)), (stab_cnd (stab_el hR)), (stab_cnd (stab_rep hR)), (stab_cnd (stab_eqv _)), (stab_eqv _), (stab_eqv _), (stab_cnd (stab_eqv _)), (stab_cnd stab_I), (stab_cnd stab_eo), (stab_cnd (stab_eqv _)), (stab_cnd (stab_eqv _)), (stab_cnd (stab_cnd (stab_eqv _))), (stab_cnd (stab_cnd stab_I)), (stab_cnd (stab_cnd stab_eo)), (stab_cnd (stab_cnd (stab_eqv _))), (stab_cnd (stab_cnd (stab_eqv _))), (stab_cnd (stab_eqv _)), (stab_cnd (stab_eqv _)), (stab_cnd (stab_cnd (stab_rep hR))), (stab_cnd (stab_cnd stab_I)), (stab_cnd (stab_cnd (stab_el hR))), (stab_cnd (stab_cnd (stab_el hR))), (stab_cnd (stab_cnd (stab_rep hR))), (stab_cnd (stab_cnd (stab_rep hR))), (stab_cnd (stab_cnd stab_I)), (stab_cnd (stab_cnd (stab_el hR))), (stab_cnd (stab_cnd (stab_el hR))), (stab_cnd (stab_cnd (stab_rep hR))), (stab_cnd (stab_cnd (stab_eqv _))), (stab_cnd (stab_eqv _)), (stab_eqv _), trivial⟩ ?_ ?_
                ·
                 refine RunAll.cons (eqv ((.slice (some ⟨b_52, 0, .none⟩) m_51.1 m_51.2))) [] rfl rfl ?_ ?_
                 ·intro W_ hW
                  have S1 := S
                  replace O_303 := O_303.step hW
                  exact RPost.one (v := (.slice (some ⟨b_52, 0, .none⟩) m_51.1 m_51.2)) S1 tys tys_ok rfl (by kernel_rfl) S.defers rfl (Below.refl _ _)
                 refine RunAll.cons (isI .i64 t_125) [] rfl rfl ?_ ?_
                 ·intro W_ hW
                  have S1 := S
                  exact RPost.one (v := .int .i64 t_125) S1 tys tys_ok rfl (by kernel_rfl) S.defers ⟨rfl, GR_127⟩ (Below.refl _ _)
                 refine RunAll.cons (isEo .bool (Kx K w.heap.size [some b_52]) y_315) [(eqv ((.slice (some ⟨b_52, 0, .none⟩) m_51.1 m_51.2)), 118), (isI .i64 t_125, 119)] rfl rfl ?_ ?_
                 ·intro W_ hW
                  have S1 := S
                  intro v_384 hF_383; obtain rfl : (.slice (some ⟨b_52, 0, .none⟩) m_51.1 m_51.2) = v_384 := Eq.symm hF_383
                  replace S1 := S1.put (by decide : 118 < 211) ((.slice (some ⟨b_52, 0, .none⟩) m_51.1 m_51.2))
                  rintro _ ⟨rfl, hF_385⟩
                  replace S1 := S1.put (by decide : 119 < 211) (.int .i64 t_125)
                  refine fill_nil S1 ?_; clear S1; intro a_ S1
                  replace O_303 := O_303.step hW
                  replace W := W.step hW
                  have S0 := S.defers; replace S := S1; clear S1
                  refine w_go S rfl (op_indexAddr_own S rfl ty32 rfl rfl rfl O_303 rfl ey_315 ?_)
                  clear S; intro a g_387 H_389 R_388 S
                  refine wpList_nil ?_
                  exact RPost.mk_ S rfl S0 ⟨_, rfl, R_388, W.ownlt (o := some b_52) (List.mem_of_getElem? (i := 0) rfl) H_389⟩ (Below.refl _ _)
                 refine RunAll.cons (eqv (.bool y_315)) [(isEo .bool (Kx K w.heap.size [some b_52]) y_315, 120)] rfl rfl ?_ ?_
                 ·intro W_ hW
                  have S1 := S
                  rintro _ ⟨p_392, rfl, R_393, H_394⟩
                  replace S1 := S1.put (by decide : 120 < 211) (.pointer (some p_392))
                  refine fill_nil S1 ?_; clear S1; intro a_ S1
                  have S0 := S.defers; replace S := S1; clear S1
                  refine w_go S rfl (op_load (t := .bool) (x := y_315) S rfl ty4 rfl rfl rfl R_393 ?_)
                  clear S; intro a v_395 R_396 S
                  obtain rfl := RepV.bool R_396
                  refine wpList_nil ?_
                  exact RPost.mk_ S rfl S0 rfl (Below.refl _ _)
                 refine RunAll.cons (eqv (.bool y_315)) [(eqv (.bool y_315), 121)] rfl rfl ?_ ?_
                 ·intro W_ hW
                  have S1 := S
                  intro v_398 hF_397; obtain rfl : .bool y_315 = v_398 := Eq.symm hF_397
                  replace S1 := S1.put (by decide : 121 < 211) (.bool y_315)
                  exact RPost.one (v := .bool y_315) S1 tys tys_ok rfl (by kernel_rfl) S.defers rfl (Below.refl _ _)
                 refine RunAll.cons (cndF y_315 true (eqv ((.slice (some ⟨b_52, 0, .none⟩) m_51.1 m_51.2)))) [(eqv (.bool y_315), 122)] rfl rfl ?_ ?_
                 ·intro W_ hW
                  by_cases hc0 : y_315 = true
                  ·have hl0 : y_315 = true := hc0
                   have S1 := S
                   intro v_400 hF_399; obtain rfl : .bool y_315 = v_400 := Eq.symm hF_399
                   replace S1 := S1.put (by decide : 122 < 211) (.bool y_315)
                   refine fill_nil S1 ?_; clear S1; intro a_ S1
                   replace O_303 := O_303.step hW
                   rw [show y_315 = true from hl0] at S1
                   exact RPost.one (v := (.slice (some ⟨b_52, 0, .none⟩) m_51.1 m_51.2)) S1 tys tys_ok rfl (by kernel_rfl) S.defers ⟨fun _ => rfl, fun k_ => absurd hc0 k_⟩ (Below.refl _ _)
                  ·have hl0 : y_315 = false := Bool.eq_false_iff.2 hc0
                   have S1 := S
                   intro v_402 hF_401; obtain rfl : .bool y_315 = v_402 := Eq.symm hF_401
                   replace S1 := S1.put (by decide : 122 < 211) (.bool y_315)
                   refine fill_nil S1 ?_; clear S1; intro a_ S1
                   rw [show y_315 = false from hl0] at S1
                   exact RPost.one (v := undef) S1 tys tys_ok rfl (by kernel_rfl) S.defers ⟨fun k_ => absurd k_ hc0, fun _ => rfl⟩ (Below.refl _ _)
                 refine RunAll.cons (cndF y_315 true (isI .i64 c_305)) [(eqv (.bool y_315), 122)] rfl rfl ?_ ?_
                 ·intro W_ hW
                  by_cases hc0 : y_315 = true
                  ·have hl0 : y_315 = true := hc0
                   have S1 := S
                   intro v_404 hF_403; obtain rfl : .bool y_315 = v_404 := Eq.symm hF_403
                   replace S1 := S1.put (by decide : 122 < 211) (.bool y_315)
                   refine fill_nil S1 ?_; clear S1; intro a_ S1
                   rw [show y_315 = true from hl0] at S1
                   exact RPost.one (v := .int .i64 c_305) S1 tys tys_ok rfl (by kernel_rfl) S.defers ⟨fun _ => ⟨rfl, G_306⟩, fun k_ => absurd hc0 k_⟩ (Below.refl _ _)
                  ·have hl0 : y_315 = false := Bool.eq_false_iff.2 hc0
                   have S1 := S
                   intro v_406 hF_405; obtain rfl : .bool y_315 = v_406 := Eq.symm hF_405
                   replace S1 := S1.put (by decide : 122 < 211) (.bool y_315)
                   refine fill_nil S1 ?_; clear S1; intro a_ S1
                   rw [show y_315 = false from hl0] at S1
                   exact RPost.one (v := undef) S1 tys tys_ok rfl (by kernel_rfl) S.defers ⟨fun k_ => absurd k_ hc0, fun _ => rfl⟩ (Below.refl _ _)
                 refine RunAll.cons (cndF y_315 true (isEo .bool (Kx K w.heap.size [some b_52]) y_323)) [(cndF y_315 true (eqv ((.slice (some ⟨b_52, 0, .none⟩) m_51.1 m_51.2))), 123), (cndF y_315 true (isI .i64 c_305), 124), (eqv (.bool y_315), 122)] rfl rfl ?_ ?_
                 ·intro W_ hW
                  by_cases hc0 : y_315 = true
                  ·have hl0 : y_315 = true := hc0
                   have S1 := S
                   intro v_407 hF_408
                   replace hF_408 := cndF.pos hF_408 hc0
                   revert hF_408
                   revert v_407
                   intro v_410 hF_409; obtain rfl : (.slice (some ⟨b_52, 0, .none⟩) m_51.1 m_51.2) = v_410 := Eq.symm hF_409
                   replace S1 := S1.put (by decide : 123 < 211) ((.slice (some ⟨b_52, 0, .none⟩) m_51.1 m_51.2))
                   intro v_411 hF_412
                   replace hF_412 := cndF.pos hF_412 hc0
                   revert hF_412
                   revert v_411
                   rintro _ ⟨rfl, hF_413⟩
                   replace S1 := S1.put (by decide : 124 < 211) (.int .i64 c_305)
                   intro v_416 hF_415; obtain rfl : .bool y_315 = v_416 := Eq.symm hF_415
                   replace S1 := S1.put (by decide : 122 < 211) (.bool y_315)
                   refine fill_nil S1 ?_; clear S1; intro a_ S1
                   replace O_303 := O_303.step hW
                   replace W := W.step hW
                   rw [show y_315 = true from hl0] at S1
                   have S0 := S.defers; replace S := S1; clear S1
                   obtain ⟨ey_323, _⟩ := (HG_322).1 hc0
                   refine w_go S rfl (op_indexAddr_own S rfl ty32 rfl rfl rfl O_303 rfl ey_323 ?_)
                   clear S; intro a g_417 H_419 R_418 S
                   refine wpList_nil ?_
                   exact RPost.mk_ S rfl S0 ⟨fun _ => ⟨_, rfl, R_418, W.ownlt (o := some b_52) (List.mem_of_getElem? (i := 0) rfl) H_419⟩, fun k_ => absurd hc0 k_⟩ (Below.refl _ _)
                  ·have hl0 : y_315 = false := Bool.eq_false_iff.2 hc0
                   have S1 := S
                   intro v_420 hF_421
                   obtain rfl := cndF.neg hF_421 hc0
                   replace S1 := S1.put (by decide : 123 < 211) (undef)
                   intro v_422 hF_423
                   obtain rfl := cndF.neg hF_423 hc0
                   replace S1 := S1.put (by decide : 124 < 211) (undef)
                   intro v_425 hF_424; obtain rfl : .bool y_315 = v_425 := Eq.symm hF_424
                   replace S1 := S1.put (by decide : 122 < 211) (.bool y_315)
                   refine fill_nil S1 ?_; clear S1; intro a_ S1
                   rw [show y_315 = false from hl0] at S1
                   exact RPost.one (v := undef) S1 tys tys_ok rfl (by kernel_rfl) S.defers ⟨fun k_ => absurd k_ hc0, fun _ => rfl⟩ (Below.refl _ _)
                 refine RunAll.cons (cndF y_315 true (eqv (.bool y_323))) [(cndF y_315 true (isEo .bool (Kx K w.heap.size [some b_52]) y_323), 125), (eqv (.bool y_315), 122)] rfl rfl ?_ ?_
                 ·intro W_ hW
                  by_cases hc0 : y_315 = true
                  ·have hl0 : y_315 = true := hc0
                   have S1 := S
                   intro v_426 hF_427
                   replace hF_427 := cndF.pos hF_427 hc0
                   revert hF_427
                   revert v_426
                   rintro _ ⟨p_430, rfl, R_431, H_432⟩
                   replace S1 := S1.put (by decide : 125 < 211) (.pointer (some p_430))
                   intro v_434 hF_433; obtain rfl : .bool y_315 = v_434 := Eq.symm hF_433
                   replace S1 := S1.put (by decide : 122 < 211) (.bool y_315)
                   refine fill_nil S1 ?_; clear S1; intro a_ S1
                   rw [show y_315 = true from hl0] at S1
                   have S0 := S.defers; replace S := S1; clear S1
                   obtain ⟨ey_323, _⟩ := (HG_322).1 hc0
                   refine w_go S rfl (op_load (t := .bool) (x := y_323) S rfl ty4 rfl rfl rfl R_431 ?_)
                   clear S; intro a v_435 R_436 S
                   obtain rfl := RepV.bool R_436
                   refine wpList_nil ?_
                   exact RPost.mk_ S rfl S0 ⟨fun _ => rfl, fun k_ => absurd hc0 k_⟩ (Below.refl _ _)
                  ·have hl0 : y_315 = false := Bool.eq_false_iff.2 hc0
                   have S1 := S
                   intro v_437 hF_438
                   obtain rfl := cndF.neg hF_438 hc0
                   replace S1 := S1.put (by decide : 125 < 211) (undef)
                   intro v_440 hF_439; obtain rfl : .bool y_315 = v_440 := Eq.symm hF_439
                   replace S1 := S1.put (by decide : 122 < 211) (.bool y_315)
                   refine fill_nil S1 ?_; clear S1; intro a_ S1
                   rw [show y_315 = false from hl0] at S1
                   exact RPost.one (v := undef) S1 tys tys_ok rfl (by kernel_rfl) S.defers ⟨fun k_ => absurd k_ hc0, fun _ => rfl⟩ (Below.refl _ _)
                 refine RunAll.cons (cndF y_315 true (eqv (.bool (!y_323)))) [(cndF y_315 true (eqv (.bool y_323)), 126), (eqv (.bool y_315), 122)] rfl rfl ?_ ?_
                 ·intro W_ hW
                  by_cases hc0 : y_315 = true
                  ·have hl0 : y_315 = true := hc0
                   have S1 := S
                   intro v_441 hF_442
                   replace hF_442 := cndF.pos hF_442 hc0
                   revert hF_442
                   revert v_441
                   intro v_444 hF_443; obtain rfl : .bool y_323 = v_444 := Eq.symm hF_443
                   replace S1 := S1.put (by decide : 126 < 211) (.bool y_323)
                   intro v_446 hF_445; obtain rfl : .bool y_315 = v_446 := Eq.symm hF_445
                   replace S1 := S1.put (by decide : 122 < 211) (.bool y_315)
                   refine fill_nil S1 ?_; clear S1; intro a_ S1
                   rw [show y_315 = true from hl0] at S1
                   exact RPost.one (v := .bool (!y_323)) S1 tys tys_ok rfl (by kernel_rfl) S.defers ⟨fun _ => rfl, fun k_ => absurd hc0 k_⟩ (Below.refl _ _)
                  ·have hl0 : y_315 = false := Bool.eq_false_iff.2 hc0
                   have S1 := S
                   intro v_447 hF_448
                   obtain rfl := cndF.neg hF_448 hc0
                   replace S1 := S1.put (by decide : 126 < 211) (undef)
                   intro v_450 hF_449; obtain rfl : .bool y_315 = v_450 := Eq.symm hF_449
                   replace S1 := S1.put (by decide : 122 < 211) (.bool y_315)
                   refine fill_nil S1 ?_; clear S1; intro a_ S1
                   rw [show y_315 = false from hl0] at S1
                   exact RPost.one (v := undef) S1 tys tys_ok rfl (by kernel_rfl) S.defers ⟨fun k_ => absurd k_ hc0, fun _ => rfl⟩ (Below.refl _ _)
                 refine RunAll.cons (eqv (.bool q_321)) [(eqv (.bool y_315), 122), (cndF y_315 true (eqv (.bool (!y_323))), 127)] rfl rfl ?_ ?_
                 ·intro W_ hW
                  by_cases hc0 : y_315 = true
                  ·have hl0 : y_315 = true := hc0
                   have S1 := S
                   intro v_452 hF_451; obtain rfl : .bool y_315 = v_452 := Eq.symm hF_451
                   replace S1 := S1.put (by decide : 122 < 211) (.bool y_315)
                   intro v_453 hF_454
                   replace hF_454 := cndF.pos hF_454 hc0
                   revert hF_454
                   revert v_453
                   intro v_456 hF_455; obtain rfl : .bool (!y_323) = v_456 := Eq.symm hF_455
                   replace S1 := S1.put (by decide : 127 < 211) (.bool (!y_323))
                   refine fill_nil S1 ?_; clear S1; intro a_ S1
                   rw [show y_315 = true from hl0] at S1
                   exact RPost.one (v := .bool (!y_323)) S1 tys tys_ok rfl (by kernel_rfl) S.defers (congrArg Value.bool ((HG_322).1 hc0).2) (Below.refl _ _)
                  ·have hl0 : y_315 = false := Bool.eq_false_iff.2 hc0
                   have S1 := S
                   intro v_458 hF_457; obtain rfl : .bool y_315 = v_458 := Eq.symm hF_457
                   replace S1 := S1.put (by decide : 122 < 211) (.bool y_315)
                   intro v_459 hF_460
                   obtain rfl := cndF.neg hF_460 hc0
                   replace S1 := S1.put (by decide : 127 < 211) (undef)
                   refine fill_nil S1 ?_; clear S1; intro a_ S1
                   rw [show y_315 = false from hl0] at S1
                   exact RPost.one (v := .bool false) S1 tys tys_ok rfl (by kernel_rfl) S.defers (congrArg Value.bool ((HG_322).2 hc0)) (Below.refl _ _)
                 refine RunAll.cons (eqv (.bool q_321)) [(eqv (.bool q_321), 128)] rfl rfl ?_ ?_
                 ·intro W_ hW
                  have S1 := S
                  intro v_462 hF_461; obtain rfl : .bool q_321 = v_462 := Eq.symm hF_461
                  replace S1 := S1.put (by decide : 128 < 211) (.bool q_321)
                  exact RPost.one (v := .bool q_321) S1 tys tys_ok rfl (by kernel_rfl) S.defers rfl (Below.refl _ _)
                 refine RunAll.cons (cndF q_321 true (isRep (.sl gt2) (Kx K w.heap.size [some b_52]) j_46)) [(eqv (.bool q_321), 129)] rfl rfl ?_ ?_
                 ·intro W_ hW
                  by_cases hc1 : q_321 = true
                  ·have hl1 : q_321 = true := hc1
                   have S1 := S
                   intro v_464 hF_463; obtain rfl : .bool q_321 = v_464 := Eq.symm hF_463
                   replace S1 := S1.put (by decide : 129 < 211) (.bool q_321)
                   refine fill_nil S1 ?_; clear S1; intro a_ S1
                   replace R_48 := R_48.step hW
                   rw [show q_321 = true from hl1] at S1
                   exact RPost.one (v := v_47) S1 tys tys_ok rfl (by kernel_rfl) S.defers ⟨fun _ => R_48, fun k_ => absurd hc1 k_⟩ (Below.refl _ _)
                  ·have hl1 : q_321 = false := Bool.eq_false_iff.2 hc1
                   have S1 := S
                   intro v_466 hF_465; obtain rfl : .bool q_321 = v_466 := Eq.symm hF_465
                   replace S1 := S1.put (by decide : 129 < 211) (.bool q_321)
                   refine fill_nil S1 ?_; clear S1; intro a_ S1
                   rw [show q_321 = false from hl1] at S1
                   exact RPost.one (v := undef) S1 tys tys_ok rfl (by kernel_rfl) S.defers ⟨fun k_ => absurd k_ hc1, fun _ => rfl⟩ (Below.refl _ _)
                 refine RunAll.cons (cndF q_321 true (isI .i64 t_125)) [(eqv (.bool q_321), 129)] rfl rfl ?_ ?_
                 ·intro W_ hW
                  by_cases hc1 : q_321 = true
                  ·have hl1 : q_321 = true := hc1
                   have S1 := S
                   intro v_468 hF_467; obtain rfl : .bool q_321 = v_468 := Eq.symm hF_467
                   replace S1 := S1.put (by decide : 129 < 211) (.bool q_321)
                   refine fill_nil S1 ?_; clear S1; intro a_ S1
                   rw [show q_321 = true from hl1] at S1
                   exact RPost.one (v := .int .i64 t_125) S1 tys tys_ok rfl (by kernel_rfl) S.defers ⟨fun _ => ⟨rfl, GR_127⟩, fun k_ => absurd hc1 k_⟩ (Below.refl _ _)
                  ·have hl1 : q_321 = false := Bool.eq_false_iff.2 hc1
                   have S1 := S
                   intro v_470 hF_469; obtain rfl : .bool q_321 = v_470 := Eq.symm hF_469
                   replace S1 := S1.put (by decide : 129 < 211) (.bool q_321)
                   refine fill_nil S1 ?_; clear S1; intro a_ S1
                   rw [show q_321 = false from hl1] at S1
                   exact RPost.one (v := undef) S1 tys tys_ok rfl (by kernel_rfl) S.defers ⟨fun k_ => absurd k_ hc1, fun _ => rfl⟩ (Below.refl _ _)
                 refine RunAll.cons (cndF q_321 true (isEl gt2 (Kx K w.heap.size [some b_52]) y_331)) [(cndF q_321 true (isRep (.sl gt2) (Kx K w.heap.size [some b_52]) j_46), 130), (cndF q_321 true (isI .i64 t_125), 131), (eqv (.bool q_321), 129)] rfl rfl ?_ ?_
                 ·intro W_ hW
                  by_cases hc1 : q_321 = true
                  ·have hl1 : q_321 = true := hc1
                   have S1 := S
                   intro v_471 hF_472
                   replace hF_472 := cndF.pos hF_472 hc1
                   revert hF_472
                   revert v_471
                   intro v_474 hF_473; replace hF_473 : RepV _ _ _ _ _ := hF_473
                   replace S1 := S1.put (by decide : 130 < 211) (v_474)
                   intro v_475 hF_476
                   replace hF_476 := cndF.pos hF_476 hc1
                   revert hF_476
                   revert v_475
                   rintro _ ⟨rfl, hF_477⟩
                   replace S1 := S1.put (by decide : 131 < 211) (.int .i64 t_125)
                   intro v_480 hF_479; obtain rfl : .bool q_321 = v_480 := Eq.symm hF_479
                   replace S1 := S1.put (by decide : 129 < 211) (.bool q_321)
                   refine fill_nil S1 ?_; clear S1; intro a_ S1
                   replace W := W.step hW
                   rw [show q_321 = true from hl1] at S1
                   have S0 := S.defers; replace S := S1; clear S1
                   obtain ⟨ey_331, ey_337, et_343, _⟩ := (HG_330).1 hc1
                   refine w_go S rfl (op_indexAddr S rfl ty25 rfl rfl rfl hF_473 rfl ey_331 ?_)
                   clear S; intro a p_481 R_482 H_483 S
                   refine wpList_nil ?_
                   exact RPost.mk_ S rfl S0 ⟨fun _ => ⟨_, rfl, R_482, H_483⟩, fun k_ => absurd hc1 k_⟩ (Below.refl _ _)
                  ·have hl1 : q_321 = false := Bool.eq_false_iff.2 hc1
                   have S1 := S
                   intro v_484 hF_485
                   obtain rfl := cndF.neg hF_485 hc1
                   replace S1 := S1.put (by decide : 130 < 211) (undef)
                   intro v_486 hF_487
                   obtain rfl := cndF.neg hF_487 hc1
                   replace S1 := S1.put (by decide : 131 < 211) (undef)
                   intro v_489 hF_488; obtain rfl : .bool q_321 = v_489 := Eq.symm hF_488
                   replace S1 := S1.put (by decide : 129 < 211) (.bool q_321)
                   refine fill_nil S1 ?_; clear S1; intro a_ S1
                   rw [show q_321 = false from hl1] at S1
                   exact RPost.one (v := undef) S1 tys tys_ok rfl (by kernel_rfl) S.defers ⟨fun k_ => absurd k_ hc1, fun _ => rfl⟩ (Below.refl _ _)
                 refine RunAll.cons (cndF q_321 true (isEl (.sl (.int .u8)) (Kx K w.heap.size [some b_52]) y_331.1)) [(cndF q_321 true (isEl gt2 (Kx K w.heap.size [some b_52]) y_331), 132), (eqv (.bool q_321), 129)] rfl rfl ?_ ?_
                 ·intro W_ hW
                  by_cases hc1 : q_321 = true
                  ·have hl1 : q_321 = true := hc1
                   have S1 := S
                   intro v_490 hF_491
                   replace hF_491 := cndF.pos hF_491 hc1
                   revert hF_491
                   revert v_490
                   rintro _ ⟨p_494, rfl, R_495, H_496⟩
                   replace S1 := S1.put (by decide : 132 < 211) (.pointer (some p_494))
                   intro v_498 hF_497; obtain rfl : .bool q_321 = v_498 := Eq.symm hF_497
                   replace S1 := S1.put (by decide : 129 < 211) (.bool q_321)
                   refine fill_nil S1 ?_; clear S1; intro a_ S1
                   rw [show q_321 = true from hl1] at S1
                   exact RPost.one (v := .pointer (some (p_494.add (coff gf2 0)))) S1 tys tys_ok rfl (by kernel_rfl) S.defers ⟨fun _ => ⟨_, rfl, (RepAt.add 0 (RepAt.st (t := gf2) R_495)), (by simpa [Addr.add] using H_496)⟩, fun k_ => absurd hc1 k_⟩ (Below.refl _ _)
                  ·have hl1 : q_321 = false := Bool.eq_false_iff.2 hc1
                   have S1 := S
                   intro v_499 hF_500
                   obtain rfl := cndF.neg hF_500 hc1
                   replace S1 := S1.put (by decide : 132 < 211) (undef)
                   intro v_502 hF_501; obtain rfl : .bool q_321 = v_502 := Eq.symm hF_501
                   replace S1 := S1.put (by decide : 129 < 211) (.bool q_321)
                   refine fill_nil S1 ?_; clear S1; intro a_ S1
                   rw [show q_321 = false from hl1] at S1
                   exact RPost.one (v := undef) S1 tys tys_ok rfl (by kernel_rfl) S.defers ⟨fun k_ => absurd k_ hc1, fun _ => rfl⟩ (Below.refl _ _)
                 refine RunAll.cons (cndF q_321 true (isRep (.sl (.int .u8)) (Kx K w.heap.size [some b_52]) y_331.1)) [(cndF q_321 true (isEl (.sl (.int .u8)) (Kx K w.heap.size [some b_52]) y_331.1), 133), (eqv (.bool q_321), 129)] rfl rfl ?_ ?_
                 ·intro W_ hW
                  by_cases hc1 : q_321 = true
                  ·have hl1 : q_321 = true := hc1
                   have S1 := S
                   intro v_503 hF_504
                   replace hF_504 := cndF.pos hF_504 hc1
                   revert hF_504
                   revert v_503
                   rintro _ ⟨p_507, rfl, R_508, H_509⟩
                   replace S1 := S1.put (by decide : 133 < 211) (.pointer (some p_507))
                   intro v_511 hF_510; obtain rfl : .bool q_321 = v_511 := Eq.symm hF_510
                   replace S1 := S1.put (by decide : 129 < 211) (.bool q_321)
                   refine fill_nil S1 ?_; clear S1; intro a_ S1
                   rw [show q_321 = true from hl1] at S1
                   have S0 := S.defers; replace S := S1; clear S1
                   obtain ⟨ey_331, ey_337, et_343, _⟩ := (HG_330).1 hc1
                   refine w_go S rfl (op_load (t := (.sl (.int .u8))) (x := y_331.1) S rfl ty35 rfl rfl rfl R_508 ?_)
                   clear S; intro a v_512 R_513 S
                   refine wpList_nil ?_
                   exact RPost.mk_ S rfl S0 ⟨fun _ => R_513, fun k_ => absurd hc1 k_⟩ (Below.refl _ _)
                  ·have hl1 : q_321 = false := Bool.eq_false_iff.2 hc1
                   have S1 := S
                   intro v_514 hF_515
                   obtain rfl := cndF.neg hF_515 hc1
                   replace S1 := S1.put (by decide : 133 < 211) (undef)
                   intro v_517 hF_516; obtain rfl : .bool q_321 = v_517 := Eq.symm hF_516
                   replace S1 := S1.put (by decide : 129 < 211) (.bool q_321)
                   refine fill_nil S1 ?_; clear S1; intro a_ S1
                   rw [show q_321 = false from hl1] at S1
                   exact RPost.one (v := undef) S1 tys tys_ok rfl (by kernel_rfl) S.defers ⟨fun k_ => absurd k_ hc1, fun _ => rfl⟩ (Below.refl _ _)
                 refine RunAll.cons (cndF q_321 true (isRep (.sl gt2) (Kx K w.heap.size [some b_52]) j_46)) [(eqv (.bool q_321), 129)] rfl rfl ?_ ?_
                 ·intro W_ hW
                  by_cases hc1 : q_321 = true
                  ·have hl1 : q_321 = true := hc1
                   have S1 := S
                   intro v_519 hF_518; obtain rfl : .bool q_321 = v_519 := Eq.symm hF_518
                   replace S1 := S1.put (by decide : 129 < 211) (.bool q_321)
                   refine fill_nil S1 ?_; clear S1; intro a_ S1
                   replace R_48 := R_48.step hW
                   rw [show q_321 = true from hl1] at S1
                   exact RPost.one (v := v_47) S1 tys tys_ok rfl (by kernel_rfl) S.defers ⟨fun _ => R_48, fun k_ => absurd hc1 k_⟩ (Below.refl _ _)
                  ·have hl1 : q_321 = false := Bool.eq_false_iff.2 hc1
                   have S1 := S
                   intro v_521 hF_520; obtain rfl : .bool q_321 = v_521 := Eq.symm hF_520
                   replace S1 := S1.put (by decide : 129 < 211) (.bool q_321)
                   refine fill_nil S1 ?_; clear S1; intro a_ S1
                   rw [show q_321 = false from hl1] at S1
                   exact RPost.one (v := undef) S1 tys tys_ok rfl (by kernel_rfl) S.defers ⟨fun k_ => absurd k_ hc1, fun _ => rfl⟩ (Below.refl _ _)
                 refine RunAll.cons (cndF q_321 true (isI .i64 c_305)) [(eqv (.bool q_321), 129)] rfl rfl ?_ ?_
                 ·intro W_ hW
                  by_cases hc1 : q_321 = true
                  ·have hl1 : q_321 = true := hc1
                   have S1 := S
                   intro v_523 hF_522; obtain rfl : .bool q_321 = v_523 := Eq.symm hF_522
                   replace S1 := S1.put (by decide : 129 < 211) (.bool q_321)
                   refine fill_nil S1 ?_; clear S1; intro a_ S1
                   rw [show q_321 = true from hl1] at S1
                   exact RPost.one (v := .int .i64 c_305) S1 tys tys_ok rfl (by kernel_rfl) S.defers ⟨fun _ => ⟨rfl, G_306⟩, fun k_ => absurd hc1 k_⟩ (Below.refl _ _)
                  ·have hl1 : q_321 = false := Bool.eq_false_iff.2 hc1
                   have S1 := S
                   intro v_525 hF_524; obtain rfl : .bool q_321 = v_525 := Eq.symm hF_524
                   replace S1 := S1.put (by decide : 129 < 211) (.bool q_321)
                   refine fill_nil S1 ?_; clear S1; intro a_ S1
                   rw [show q_321 = false from hl1] at S1
                   exact RPost.one (v := undef) S1 tys tys_ok rfl (by kernel_rfl) S.defers ⟨fun k_ => absurd k_ hc1, fun _ => rfl⟩ (Below.refl _ _)
                 refine RunAll.cons (cndF q_321 true (isEl gt2 (Kx K w.heap.size [some b_52]) y_337)) [(cndF q_321 true (isRep (.sl gt2) (Kx K w.heap.size [some b_52]) j_46), 135), (cndF q_321 true (isI .i64 c_305), 136), (eqv (.bool q_321), 129)] rfl rfl ?_ ?_
                 ·intro W_ hW
                  by_cases hc1 : q_321 = true
                  ·have hl1 : q_321 = true := hc1
                   have S1 := S
                   intro v_526 hF_527
                   replace hF_527 := cndF.pos hF_527 hc1
                   revert hF_527
                   revert v_526
                   intro v_529 hF_528; replace hF_528 : RepV _ _ _ _ _ := hF_528
                   replace S1 := S1.put (by decide : 135 < 211) (v_529)
                   intro v_530 hF_531
                   replace hF_531 := cndF.pos hF_531 hc1
                   revert hF_531
                   revert v_530
                   rintro _ ⟨rfl, hF_532⟩
                   replace S1 := S1.put (by decide : 136 < 211) (.int .i64 c_305)
                   intro v_535 hF_534; obtain rfl : .bool q_321 = v_535 := Eq.symm hF_534
                   replace S1 := S1.put (by decide : 129 < 211) (.bool q_321)
                   refine fill_nil S1 ?_; clear S1; intro a_ S1
                   replace W := W.step hW
                   rw [show q_321 = true from hl1] at S1
                   have S0 := S.defers; replace S := S1; clear S1
                   obtain ⟨ey_331, ey_337, et_343, _⟩ := (HG_330).1 hc1
                   refine w_go S rfl (op_indexAddr S rfl ty25 rfl rfl rfl hF_528 rfl ey_337 ?_)
                   clear S; intro a p_536 R_537 H_538 S
                   refine wpList_nil ?_
                   exact RPost.mk_ S rfl S0 ⟨fun _ => ⟨_, rfl, R_537, H_538⟩, fun k_ => absurd hc1 k_⟩ (Below.refl _ _)
                  ·have hl1 : q_321 = false := Bool.eq_false_iff.2 hc1
                   have S1 := S
                   intro v_539 hF_540
                   obtain rfl := cndF.neg hF_540 hc1
                   replace S1 := S1.put (by decide : 135 < 211) (undef)
                   intro v_541 hF_542
                   obtain rfl := cndF.neg hF_542 hc1
                   replace S1 := S1.put (by decide : 136 < 211) (undef)
                   intro v_544 hF_543; obtain rfl : .bool q_321 = v_544 := Eq.symm hF_543
                   replace S1 := S1.put (by decide : 129 < 211) (.bool q_321)
                   refine fill_nil S1 ?_; clear S1; intro a_ S1
                   rw [show q_321 = false from hl1] at S1
                   exact RPost.one (v := undef) S1 tys tys_ok rfl (by kernel_rfl) S.defers ⟨fun k_ => absurd k_ hc1, fun _ => rfl⟩ (Below.refl _ _)
                 refine RunAll.cons (cndF q_321 true (isEl (.sl (.int .u8)) (Kx K w.heap.size [some b_52]) y_337.1)) [(cndF q_321 true (isEl gt2 (Kx K w.heap.size [some b_52]) y_337), 137), (eqv (.bool q_321), 129)] rfl rfl ?_ ?_
                 ·intro W_ hW
                  by_cases hc1 : q_321 = true
                  ·have hl1 : q_321 = true := hc1
                   have S1 := S
                   intro v_545 hF_546
                   replace hF_546 := cndF.pos hF_546 hc1
                   revert hF_546
                   revert v_545
                   rintro _ ⟨p_549, rfl, R_550, H_551⟩
                   replace S1 := S1.put (by decide : 137 < 211) (.pointer (some p_549))
                   intro v_553 hF_552; obtain rfl : .bool q_321 = v_553 := Eq.symm hF_552
                   replace S1 := S1.put (by decide : 129 < 211) (.bool q_321)
                   refine fill_nil S1 ?_; clear S1; intro a_ S1
                   rw [show q_321 = true from hl1] at S1
                   exact RPost.one (v := .pointer (some (p_549.add (coff gf2 0)))) S1 tys tys_ok rfl (by kernel_rfl) S.defers ⟨fun _ => ⟨_, rfl, (RepAt.add 0 (RepAt.st (t := gf2) R_550)), (by simpa [Addr.add] using H_551)⟩, fun k_ => absurd hc1 k_⟩ (Below.refl _ _)
                  ·have hl1 : q_321 = false := Bool.eq_false_iff.2 hc1
                   have S1 := S
                   intro v_554 hF_555
                   obtain rfl := cndF.neg hF_555 hc1
                   replace S1 := S1.put (by decide : 137 < 211) (undef)
                   intro v_557 hF_556; obtain rfl : .bool q_321 = v_557 := Eq.symm hF_556
                   replace S1 := S1.put (by decide : 129 < 211) (.bool q_321)
                   refine fill_nil S1 ?_; clear S1; intro a_ S1
                   rw [show q_321 = false from hl1] at S1
                   exact RPost.one (v := undef) S1 tys tys_ok rfl (by kernel_rfl) S.defers ⟨fun k_ => absurd k_ hc1, fun _ => rfl⟩ (Below.refl _ _)
                 refine RunAll.cons (cndF q_321 true (isRep (.sl (.int .u8)) (Kx K w.heap.size [some b_52]) y_337.1)) [(cndF q_321 true (isEl (.sl (.int .u8)) (Kx K w.heap.size [some b_52]) y_337.1), 138), (eqv (.bool q_321), 129)] rfl rfl ?_ ?_
                 ·intro W_ hW
                  by_cases hc1 : q_321 = true
                  ·have hl1 : q_321 = true := hc1
                   have S1 := S
                   intro v_558 hF_559
                   replace hF_559 := cndF.pos hF_559 hc1
                   revert hF_559
                   revert v_558
                   rintro _ ⟨p_562, rfl, R_563, H_564⟩
                   replace S1 := S1.put (by decide : 138 < 211) (.pointer (some p_562))
                   intro v_566 hF_565; obtain rfl : .bool q_321 = v_566 := Eq.symm hF_565
                   replace S1 := S1.put (by decide : 129 < 211) (.bool q_321)
                   refine fill_nil S1 ?_; clear S1; intro a_ S1
                   rw [show q_321 = true from hl1] at S1
                   have S0 := S.defers; replace S := S1; clear S1
                   obtain ⟨ey_331, ey_337, et_343, _⟩ := (HG_330).1 hc1
                   refine w_go S rfl (op_load (t := (.sl (.int .u8))) (x := y_337.1) S rfl ty35 rfl rfl rfl R_563 ?_)
                   clear S; intro a v_567 R_568 S
                   refine wpList_nil ?_
                   exact RPost.mk_ S rfl S0 ⟨fun _ => R_568, fun k_ => absurd hc1 k_⟩ (Below.refl _ _)
                  ·have hl1 : q_321 = false := Bool.eq_false_iff.2 hc1
                   have S1 := S
                   intro v_569 hF_570
                   obtain rfl := cndF.neg hF_570 hc1
                   replace S1 := S1.put (by decide : 138 < 211) (undef)
                   intro v_572 hF_571; obtain rfl : .bool q_321 = v_572 := Eq.symm hF_571
                   replace S1 := S1.put (by decide : 129 < 211) (.bool q_321)
                   refine fill_nil S1 ?_; clear S1; intro a_ S1
                   rw [show q_321 = false from hl1] at S1
                   exact RPost.one (v := undef) S1 tys tys_ok rfl (by kernel_rfl) S.defers ⟨fun k_ => absurd k_ hc1, fun _ => rfl⟩ (Below.refl _ _)
                 refine RunAll.cons (cndF q_321 true (eqv (.bool t_343))) [(cndF q_321 true (isRep (.sl (.int .u8)) (Kx K w.heap.size [some b_52]) y_331.1), 134), (cndF q_321 true (isRep (.sl (.int .u8)) (Kx K w.heap.size [some b_52]) y_337.1), 139), (eqv (.bool q_321), 129)] rfl rfl ?_ ?_
                 ·intro W_ hW
                  by_cases hc1 : q_321 = true
                  ·have hl1 : q_321 = true := hc1
                   have S1 := S
                   intro v_573 hF_574
                   replace hF_574 := cndF.pos hF_574 hc1
                   revert hF_574
                   revert v_573
                   intro v_576 hF_575; replace hF_575 : RepV _ _ _ _ _ := hF_575
                   replace S1 := S1.put (by decide : 134 < 211) (v_576)
                   intro v_577 hF_578
                   replace hF_578 := cndF.pos hF_578 hc1
                   revert hF_578
                   revert v_577
                   intro v_580 hF_579; replace hF_579 : RepV _ _ _ _ _ := hF_579
                   replace S1 := S1.put (by decide : 139 < 211) (v_580)
                   intro v_582 hF_581; obtain rfl : .bool q_321 = v_582 := Eq.symm hF_581
                   replace S1 := S1.put (by decide : 129 < 211) (.bool q_321)
                   refine fill_nil S1 ?_; clear S1; intro a_ S1
                   replace W := W.step hW
                   rw [show q_321 = true from hl1] at S1
                   have S0 := S.defers; replace S := S1; clear S1
                   obtain ⟨ey_331, ey_337, et_343, _⟩ := (HG_330).1 hc1
                   refine w_go S rfl (op_call (vs := [v_576, v_580]) S rfl cb11 rfl rfl rfl (c11 (Kx K w.heap.size [some b_52]) n W_ y_331.1 _ hF_575 y_337.1 _ hF_579 et_343) ?_)
                   rintro _ w_586 ⟨v_583, rfl, R_584, hb_585⟩; refine ⟨_, rfl, ?_⟩
                   replace R_584 := RepV.back R_584 W
                   clear S; intro a S
                   obtain rfl := RepV.bool R_584
                   refine wpList_nil ?_
                   exact RPost.mk_ S rfl S0 ⟨fun _ => rfl, fun k_ => absurd hc1 k_⟩ (hb_585)
                  ·have hl1 : q_321 = false := Bool.eq_false_iff.2 hc1
                   have S1 := S
                   intro v_587 hF_588
                   obtain rfl := cndF.neg hF_588 hc1
                   replace S1 := S1.put (by decide : 134 < 211) (undef)
                   intro v_589 hF_590
                   obtain rfl := cndF.neg hF_590 hc1
                   replace S1 := S1.put (by decide : 139 < 211) (undef)
                   intro v_592 hF_591; obtain rfl : .bool q_321 = v_592 := Eq.symm hF_591
                   replace S1 := S1.put (by decide : 129 < 211) (.bool q_321)
                   refine fill_nil S1 ?_; clear S1; intro a_ S1
                   rw [show q_321 = false from hl1] at S1
                   exact RPost.one (v := undef) S1 tys tys_ok rfl (by kernel_rfl) S.defers ⟨fun k_ => absurd k_ hc1, fun _ => rfl⟩ (Below.refl _ _)
                 refine RunAll.cons (eqv (.bool q_329)) [(eqv (.bool q_321), 129), (cndF q_321 true (eqv (.bool t_343)), 140)] rfl rfl ?_ ?_
                 ·intro W_ hW
                  by_cases hc1 : q_321 = true
                  ·have hl1 : q_321 = true := hc1
                   have S1 := S
                   intro v_594 hF_593; obtain rfl : .bool q_321 = v_594 := Eq.symm hF_593
                   replace S1 := S1.put (by decide : 129 < 211) (.bool q_321)
                   intro v_595 hF_596
                   replace hF_596 := cndF.pos hF_596 hc1
                   revert hF_596
                   revert v_595
                   intro v_598 hF_597; obtain rfl : .bool t_343 = v_598 := Eq.symm hF_597
                   replace S1 := S1.put (by decide : 140 < 211) (.bool t_343)
                   refine fill_nil S1 ?_; clear S1; intro a_ S1
                   rw [show q_321 = true from hl1] at S1
                   exact RPost.one (v := .bool t_343) S1 tys tys_ok rfl (by kernel_rfl) S.defers (congrArg Value.bool ((HG_330).1 hc1).2.2.2) (Below.refl _ _)
                  ·have hl1 : q_321 = false := Bool.eq_false_iff.2 hc1
                   have S1 := S
                   intro v_600 hF_599; obtain rfl : .bool q_321 = v_600 := Eq.symm hF_599
                   replace S1 := S1.put (by decide : 129 < 211) (.bool q_321)
                   intro v_601 hF_602
                   obtain rfl := cndF.neg hF_602 hc1
                   replace S1 := S1.put (by decide : 140 < 211) (undef)
                   refine fill_nil S1 ?_; clear S1; intro a_ S1
                   rw [show q_321 = false from hl1] at S1
                   exact RPost.one (v := .bool false) S1 tys tys_ok rfl (by kernel_rfl) S.defers (congrArg Value.bool ((HG_330).2 hc1)) (Below.refl _ _)
                 refine RunAll.cons (eqv (.bool q_329)) [(eqv (.bool q_329), 141)] rfl rfl ?_ ?_
                 ·intro W_ hW
                  have S1 := S
                  intro v_604 hF_603; obtain rfl : .bool q_329 = v_604 := Eq.symm hF_603
                  replace S1 := S1.put (by decide : 141 < 211) (.bool q_329)
                  exact RPost.one (v := .bool q_329) S1 tys tys_ok rfl (by kernel_rfl) S.defers rfl (Below.refl _ _)
                 refine RunAll.cons (cndF q_329 false (eqv ((.slice (some ⟨b_52, 0, .none⟩) m_51.1 m_51.2)))) [(eqv (.bool q_329), 142)] rfl rfl ?_ ?_
                 ·intro W_ hW
                  by_cases hc2 : q_329 = false
                  ·have hl2 : q_329 = false := hc2
                   have S1 := S
                   intro v_606 hF_605; obtain rfl : .bool q_329 = v_606 := Eq.symm hF_605
                   replace S1 := S1.put (by decide : 142 < 211) (.bool q_329)
                   refine fill_nil S1 ?_; clear S1; intro a_ S1
                   replace O_303 := O_303.step hW
                   rw [show q_329 = false from hl2] at S1
                   exact RPost.one (v := (.slice (some ⟨b_52, 0, .none⟩) m_51.1 m_51.2)) S1 tys tys_ok rfl (by kernel_rfl) S.defers ⟨fun _ => rfl, fun k_ => absurd hc2 k_⟩ (Below.refl _ _)
                  ·have hl2 : q_329 = true := (by simpa using hc2)
                   have S1 := S
                   intro v_608 hF_607; obtain rfl : .bool q_329 = v_608 := Eq.symm hF_607
                   replace S1 := S1.put (by decide : 142 < 211) (.bool q_329)
                   refine fill_nil S1 ?_; clear S1; intro a_ S1
                   rw [show q_329 = true from hl2] at S1
                   exact RPost.one (v := undef) S1 tys tys_ok rfl (by kernel_rfl) S.defers ⟨fun k_ => absurd k_ hc2, fun _ => rfl⟩ (Below.refl _ _)
                 refine RunAll.cons (cndF q_329 false (isI .i64 c_305)) [(eqv (.bool q_329), 142)] rfl rfl ?_ ?_
                 ·intro W_ hW
                  by_cases hc2 : q_329 = false
                  ·have hl2 : q_329 = false := hc2
                   have S1 := S
                   intro v_610 hF_609; obtain rfl : .bool q_329 = v_610 := Eq.symm hF_609
                   replace S1 := S1.put (by decide : 142 < 211) (.bool q_329)
                   refine fill_nil S1 ?_; clear S1; intro a_ S1
                   rw [show q_329 = false from hl2] at S1
                   exact RPost.one (v := .int .i64 c_305) S1 tys tys_ok rfl (by kernel_rfl) S.defers ⟨fun _ => ⟨rfl, G_306⟩, fun k_ => absurd hc2 k_⟩ (Below.refl _ _)
                  ·have hl2 : q_329 = true := (by simpa using hc2)
                   have S1 := S
                   intro v_612 hF_611; obtain rfl : .bool q_329 = v_612 := Eq.symm hF_611
                   replace S1 := S1.put (by decide : 142 < 211) (.bool q_329)
                   refine fill_nil S1 ?_; clear S1; intro a_ S1
                   rw [show q_329 = true from hl2] at S1
                   exact RPost.one (v := undef) S1 tys tys_ok rfl (by kernel_rfl) S.defers ⟨fun k_ => absurd k_ hc2, fun _ => rfl⟩ (Below.refl _ _)
                 refine RunAll.cons (cndF q_329 false (isEo .bool (Kx K w.heap.size [some b_52]) y_350)) [(cndF q_329 false (eqv ((.slice (some ⟨b_52, 0, .none⟩) m_51.1 m_51.2))), 143), (cndF q_329 false (isI .i64 c_305), 144), (eqv (.bool q_329), 142)] rfl rfl ?_ ?_
                 ·intro W_ hW
                  by_cases hc2 : q_329 = false
                  ·have hl2 : q_329 = false := hc2
                   have S1 := S
                   intro v_613 hF_614
                   replace hF_614 := cndF.pos hF_614 hc2
                   revert hF_614
                   revert v_613
                   intro v_616 hF_615; obtain rfl : (.slice (some ⟨b_52, 0, .none⟩) m_51.1 m_51.2) = v_616 := Eq.symm hF_615
                   replace S1 := S1.put (by decide : 143 < 211) ((.slice (some ⟨b_52, 0, .none⟩) m_51.1 m_51.2))
                   intro v_617 hF_618
                   replace hF_618 := cndF.pos hF_618 hc2
                   revert hF_618
                   revert v_617
                   rintro _ ⟨rfl, hF_619⟩
                   replace S1 := S1.put (by decide : 144 < 211) (.int .i64 c_305)
                   intro v_622 hF_621; obtain rfl : .bool q_329 = v_622 := Eq.symm hF_621
                   replace S1 := S1.put (by decide : 142 < 211) (.bool q_329)
                   refine fill_nil S1 ?_; clear S1; intro a_ S1
                   replace O_303 := O_303.step hW
                   replace W := W.step hW
                   rw [show q_329 = false from hl2] at S1
                   have S0 := S.defers; replace S := S1; clear S1
                   obtain ⟨ey_350, eq_356, eq_364, _⟩ := (HG_349).1 hc2
                   refine w_go S rfl (op_indexAddr_own S rfl ty32 rfl rfl rfl O_303 rfl ey_350 ?_)
                   clear S; intro a g_623 H_625 R_624 S
                   refine wpList_nil ?_
                   exact RPost.mk_ S rfl S0 ⟨fun _ => ⟨_, rfl, R_624, W.ownlt (o := some b_52) (List.mem_of_getElem? (i := 0) rfl) H_625⟩, fun k_ => absurd hc2 k_⟩ (Below.refl _ _)
                  ·have hl2 : q_329 = true := (by simpa using hc2)
                   have S1 := S
                   intro v_626 hF_627
                   obtain rfl := cndF.neg hF_627 hc2
                   replace S1 := S1.put (by decide : 143 < 211) (undef)
                   intro v_628 hF_629
                   obtain rfl := cndF.neg hF_629 hc2
                   replace S1 := S1.put (by decide : 144 < 211) (undef)
                   intro v_631 hF_630; obtain rfl : .bool q_329 = v_631 := Eq.symm hF_630
                   replace S1 := S1.put (by decide : 142 < 211) (.bool q_329)
                   refine fill_nil S1 ?_; clear S1; intro a_ S1
                   rw [show q_329 = true from hl2] at S1
                   exact RPost.one (v := undef) S1 tys tys_ok rfl (by kernel_rfl) S.defers ⟨fun k_ => absurd k_ hc2, fun _ => rfl⟩ (Below.refl _ _)
                 refine RunAll.cons (cndF q_329 false (eqv (.bool y_350))) [(cndF q_329 false (isEo .bool (Kx K w.heap.size [some b_52]) y_350), 145), (eqv (.bool q_329), 142)] rfl rfl ?_ ?_
                 ·intro W_ hW
                  by_cases hc2 : q_329 = false
                  ·have hl2 : q_329 = false := hc2
                   have S1 := S
                   intro v_632 hF_633
                   replace hF_633 := cndF.pos hF_633 hc2
                   revert hF_633
                   revert v_632
                   rintro _ ⟨p_636, rfl, R_637, H_638⟩
                   replace S1 := S1.put (by decide : 145 < 211) (.pointer (some p_636))
                   intro v_640 hF_639; obtain rfl : .bool q_329 = v_640 := Eq.symm hF_639
                   replace S1 := S1.put (by decide : 142 < 211) (.bool q_329)
                   refine fill_nil S1 ?_; clear S1; intro a_ S1
                   rw [show q_329 = false from hl2] at S1
                   have S0 := S.defers; replace S := S1; clear S1
                   obtain ⟨ey_350, eq_356, eq_364, _⟩ := (HG_349).1 hc2
                   refine w_go S rfl (op_load (t := .bool) (x := y_350) S rfl ty4 rfl rfl rfl R_637 ?_)
                   clear S; intro a v_641 R_642 S
                   obtain rfl := RepV.bool R_642
                   refine wpList_nil ?_
                   exact RPost.mk_ S rfl S0 ⟨fun _ => rfl, fun k_ => absurd hc2 k_⟩ (Below.refl _ _)
                  ·have hl2 : q_329 = true := (by simpa using hc2)
                   have S1 := S
                   intro v_643 hF_644
                   obtain rfl := cndF.neg hF_644 hc2
                   replace S1 := S1.put (by decide : 145 < 211) (undef)
                   intro v_646 hF_645; obtain rfl : .bool q_329 = v_646 := Eq.symm hF_645
                   replace S1 := S1.put (by decide : 142 < 211) (.bool q_329)
                   refine fill_nil S1 ?_; clear S1; intro a_ S1
                   rw [show q_329 = true from hl2] at S1
                   exact RPost.one (v := undef) S1 tys tys_ok rfl (by kernel_rfl) S.defers ⟨fun k_ => absurd k_ hc2, fun _ => rfl⟩ (Below.refl _ _)
                 refine RunAll.cons (cndF q_329 false (eqv (.bool y_350))) [(cndF q_329 false (eqv (.bool y_350)), 146), (eqv (.bool q_329), 142)] rfl rfl ?_ ?_
                 ·intro W_ hW
                  by_cases hc2 : q_329 = false
                  ·have hl2 : q_329 = false := hc2
                   have S1 := S
                   intro v_647 hF_648
                   replace hF_648 := cndF.pos hF_648 hc2
                   revert hF_648
                   revert v_647
                   intro v_650 hF_649; obtain rfl : .bool y_350 = v_650 := Eq.symm hF_649
                   replace S1 := S1.put (by decide : 146 < 211) (.bool y_350)
                   intro v_652 hF_651; obtain rfl : .bool q_329 = v_652 := Eq.symm hF_651
                   replace S1 := S1.put (by decide : 142 < 211) (.bool q_329)
                   refine fill_nil S1 ?_; clear S1; intro a_ S1
                   rw [show q_329 = false from hl2] at S1
                   exact RPost.one (v := .bool y_350) S1 tys tys_ok rfl (by kernel_rfl) S.defers ⟨fun _ => rfl, fun k_ => absurd hc2 k_⟩ (Below.refl _ _)
                  ·have hl2 : q_329 = true := (by simpa using hc2)
                   have S1 := S
                   intro v_653 hF_654
                   obtain rfl := cndF.neg hF_654 hc2
                   replace S1 := S1.put (by decide : 146 < 211) (undef)
                   intro v_656 hF_655; obtain rfl : .bool q_329 = v_656 := Eq.symm hF_655
                   replace S1 := S1.put (by decide : 142 < 211) (.bool q_329)
                   refine fill_nil S1 ?_; clear S1; intro a_ S1
                   rw [show q_329 = true from hl2] at S1
                   exact RPost.one (v := undef) S1 tys tys_ok rfl (by kernel_rfl) S.defers ⟨fun k_ => absurd k_ hc2, fun _ => rfl⟩ (Below.refl _ _)
                 refine RunAll.cons (cndF q_329 false (cndF y_350 true (eqv ((.slice (some ⟨b_52, 0, .none⟩) m_51.1 m_51.2))))) [(cndF q_329 false (eqv (.bool y_350)), 147)] rfl rfl ?_ ?_
                 ·intro W_ hW
                  by_cases hc2 : q_329 = false
                  ·have hl2 : q_329 = false := hc2
                   by_cases hc3 : y_350 = true
                   ·have hl3 : y_350 = true := hc3
                    have S1 := S
                    intro v_657 hF_658
                    replace hF_658 := cndF.pos hF_658 hc2
                    revert hF_658
                    revert v_657
                    intro v_660 hF_659; obtain rfl : .bool y_350 = v_660 := Eq.symm hF_659
                    replace S1 := S1.put (by decide : 147 < 211) (.bool y_350)
                    refine fill_nil S1 ?_; clear S1; intro a_ S1
                    replace O_303 := O_303.step hW
                    rw [show y_350 = true from hl3] at S1
                    exact RPost.one (v := (.slice (some ⟨b_52, 0, .none⟩) m_51.1 m_51.2)) S1 tys tys_ok rfl (by kernel_rfl) S.defers ⟨fun _ => ⟨fun _ => rfl, fun k_ => absurd hc3 k_⟩, fun k_ => absurd hc2 k_⟩ (Below.refl _ _)
                   ·have hl3 : y_350 = false := Bool.eq_false_iff.2 hc3
                    have S1 := S
                    intro v_661 hF_662
                    replace hF_662 := cndF.pos hF_662 hc2
                    revert hF_662
                    revert v_661
                    intro v_664 hF_663; obtain rfl : .bool y_350 = v_664 := Eq.symm hF_663
                    replace S1 := S1.put (by decide : 147 < 211) (.bool y_350)
                    refine fill_nil S1 ?_; clear S1; intro a_ S1
                    rw [show y_350 = false from hl3] at S1
                    exact RPost.one (v := undef) S1 tys tys_ok rfl (by kernel_rfl) S.defers ⟨fun _ => ⟨fun k_ => absurd k_ hc3, fun _ => rfl⟩, fun k_ => absurd hc2 k_⟩ (Below.refl _ _)
                  ·have hl2 : q_329 = true := (by simpa using hc2)
                   have S1 := S
                   intro v_665 hF_666
                   obtain rfl := cndF.neg hF_666 hc2
                   replace S1 := S1.put (by decide : 147 < 211) (undef)
                   exact RPost.one (v := undef) S1 tys tys_ok rfl (by kernel_rfl) S.defers ⟨fun k_ => absurd k_ hc2, fun _ => rfl⟩ (Below.refl _ _)
                 refine RunAll.cons (cndF q_329 false (cndF y_350 true (isI .i64 t_125))) [(cndF q_329 false (eqv (.bool y_350)), 147)] rfl rfl ?_ ?_
                 ·intro W_ hW
                  by_cases hc2 : q_329 = false
                  ·have hl2 : q_329 = false := hc2
                   by_cases hc3 : y_350 = true
                   ·have hl3 : y_350 = true := hc3
                    have S1 := S
                    intro v_667 hF_668
                    replace hF_668 := cndF.pos hF_668 hc2
                    revert hF_668
                    revert v_667
                    intro v_670 hF_669; obtain rfl : .bool y_350 = v_670 := Eq.symm hF_669
                    replace S1 := S1.put (by decide : 147 < 211) (.bool y_350)
                    refine fill_nil S1 ?_; clear S1; intro a_ S1
                    rw [show y_350 = true from hl3] at S1
                    exact RPost.one (v := .int .i64 t_125) S1 tys tys_ok rfl (by kernel_rfl) S.defers ⟨fun _ => ⟨fun _ => ⟨rfl, GR_127⟩, fun k_ => absurd hc3 k_⟩, fun k_ => absurd hc2 k_⟩ (Below.refl _ _)
                   ·have hl3 : y_350 = false := Bool.eq_false_iff.2 hc3
                    have S1 := S
                    intro v_671 hF_672
                    replace hF_672 := cndF.pos hF_672 hc2
                    revert hF_672
                    revert v_671
                    intro v_674 hF_673; obtain rfl : .bool y_350 = v_674 := Eq.symm hF_673
                    replace S1 := S1.put (by decide : 147 < 211) (.bool y_350)
                    refine fill_nil S1 ?_; clear S1; intro a_ S1
                    rw [show y_350 = false from hl3] at S1
                    exact RPost.one (v := undef) S1 tys tys_ok rfl (by kernel_rfl) S.defers ⟨fun _ => ⟨fun k_ => absurd k_ hc3, fun _ => rfl⟩, fun k_ => absurd hc2 k_⟩ (Below.refl _ _)
                  ·have hl2 : q_329 = true := (by simpa using hc2)
                   have S1 := S
                   intro v_675 hF_676
                   obtain rfl := cndF.neg hF_676 hc2
                   replace S1 := S1.put (by decide : 147 < 211) (undef)
                   exact RPost.one (v := undef) S1 tys tys_ok rfl (by kernel_rfl) S.defers ⟨fun k_ => absurd k_ hc2, fun _ => rfl⟩ (Below.refl _ _)
                 refine RunAll.cons (cndF q_329 false (cndF y_350 true (isEo .bool (Kx K w.heap.size [some b_52]) y_358))) [(cndF q_329 false (cndF y_350 true (eqv ((.slice (some ⟨b_52, 0, .none⟩) m_51.1 m_51.2)))), 148), (cndF q_329 false (cndF y_350 true (isI .i64 t_125)), 149), (cndF q_329 false (eqv (.bool y_350)), 147)] rfl rfl ?_ ?_
                 ·intro W_ hW
                  by_cases hc2 : q_329 = false
                  ·have hl2 : q_329 = false := hc2
                   by_cases hc3 : y_350 = true
                   ·have hl3 : y_350 = true := hc3
                    have S1 := S
                    intro v_677 hF_678
                    replace hF_678 := cndF.pos hF_678 hc2
                    replace hF_678 := cndF.pos hF_678 hc3
                    revert hF_678
                    revert v_677
                    intro v_680 hF_679; obtain rfl : (.slice (some ⟨b_52, 0, .none⟩) m_51.1 m_51.2) = v_680 := Eq.symm hF_679
                    replace S1 := S1.put (by decide : 148 < 211) ((.slice (some ⟨b_52, 0, .none⟩) m_51.1 m_51.2))
                    intro v_681 hF_682
                    replace hF_682 := cndF.pos hF_682 hc2
                    replace hF_682 := cndF.pos hF_682 hc3
                    revert hF_682
                    revert v_681
                    rintro _ ⟨rfl, hF_683⟩
                    replace S1 := S1.put (by decide : 149 < 211) (.int .i64 t_125)
                    intro v_685 hF_686
                    replace hF_686 := cndF.pos hF_686 hc2
                    revert hF_686
                    revert v_685
                    intro v_688 hF_687; obtain rfl : .bool y_350 = v_688 := Eq.symm hF_687
                    replace S1 := S1.put (by decide : 147 < 211) (.bool y_350)
                    refine fill_nil S1 ?_; clear S1; intro a_ S1
                    replace O_303 := O_303.step hW
                    replace W := W.step hW
                    rw [show y_350 = true from hl3] at S1
                    have S0 := S.defers; replace S := S1; clear S1
                    obtain ⟨ey_350, eq_356, eq_364, _⟩ := (HG_349).1 hc2
                    obtain ⟨ey_358, _⟩ := (HG_357 hc2).1 hc3
                    refine w_go S rfl (op_indexAddr_own S rfl ty32 rfl rfl rfl O_303 rfl ey_358 ?_)
                    clear S; intro a g_689 H_691 R_690 S
                    refine wpList_nil ?_
                    exact RPost.mk_ S rfl S0 ⟨fun _ => ⟨fun _ => ⟨_, rfl, R_690, W.ownlt (o := some b_52) (List.mem_of_getElem? (i := 0) rfl) H_691⟩, fun k_ => absurd hc3 k_⟩, fun k_ => absurd hc2 k_⟩ (Below.refl _ _)
                   ·have hl3 : y_350 = false := Bool.eq_false_iff.2 hc3
                    have S1 := S
                    intro v_692 hF_693
                    replace hF_693 := cndF.pos hF_693 hc2
                    obtain rfl := cndF.neg hF_693 hc3
                    replace S1 := S1.put (by decide : 148 < 211) (undef)
                    intro v_694 hF_695
                    replace hF_695 := cndF.pos hF_695 hc2
                    obtain rfl := cndF.neg hF_695 hc3
                    replace S1 := S1.put (by decide : 149 < 211) (undef)
                    intro v_696 hF_697
                    replace hF_697 := cndF.pos hF_697 hc2
                    revert hF_697
                    revert v_696
                    intro v_699 hF_698; obtain rfl : .bool y_350 = v_699 := Eq.symm hF_698
                    replace S1 := S1.put (by decide : 147 < 211) (.bool y_350)
                    refine fill_nil S1 ?_; clear S1; intro a_ S1
                    rw [show y_350 = false from hl3] at S1
                    exact RPost.one (v := undef) S1 tys tys_ok rfl (by kernel_rfl) S.defers ⟨fun _ => ⟨fun k_ => absurd k_ hc3, fun _ => rfl⟩, fun k_ => absurd hc2 k_⟩ (Below.refl _ _)
                  ·have hl2 : q_329 = true := (by simpa using hc2)
                   have S1 := S
                   intro v_700 hF_701
                   obtain rfl := cndF.neg hF_701 hc2
                   replace S1 := S1.put (by decide : 148 < 211) (undef)
                   intro v_702 hF_703
                   obtain rfl := cndF.neg hF_703 hc2
                   replace S1 := S1.put (by decide : 149 < 211) (undef)
                   intro v_704 hF_705
                   obtain rfl := cndF.neg hF_705 hc2
                   replace S1 := S1.put (by decide : 147 < 211) (undef)
                   exact RPost.one (v := undef) S1 tys tys_ok rfl (by kernel_rfl) S.defers ⟨fun k_ => absurd k_ hc2, fun _ => rfl⟩ (Below.refl _ _)
                 refine RunAll.cons (cndF q_329 false (cndF y_350 true (eqv (.bool y_358)))) [(cndF q_329 false (cndF y_350 true (isEo .bool (Kx K w.heap.size [some b_52]) y_358)), 150), (cndF q_329 false (eqv (.bool y_350)), 147)] rfl rfl ?_ ?_
                 ·intro W_ hW
                  by_cases hc2 : q_329 = false
                  ·have hl2 : q_329 = false := hc2
                   by_cases hc3 : y_350 = true
                   ·have hl3 : y_350 = true := hc3
                    have S1 := S
                    intro v_706 hF_707
                    replace hF_707 := cndF.pos hF_707 hc2
                    replace hF_707 := cndF.pos hF_707 hc3
                    revert hF_707
                    revert v_706
                    rintro _ ⟨p_710, rfl, R_711, H_712⟩
                    replace S1 := S1.put (by decide : 150 < 211) (.pointer (some p_710))
                    intro v_713 hF_714
                    replace hF_714 := cndF.pos hF_714 hc2
                    revert hF_714
                    revert v_713
                    intro v_716 hF_715; obtain rfl : .bool y_350 = v_716 := Eq.symm hF_715
                    replace S1 := S1.put (by decide : 147 < 211) (.bool y_350)
                    refine fill_nil S1 ?_; clear S1; intro a_ S1
                    rw [show y_350 = true from hl3] at S1
                    have S0 := S.defers; replace S := S1; clear S1
                    obtain ⟨ey_350, eq_356, eq_364, _⟩ := (HG_349).1 hc2
                    obtain ⟨ey_358, _⟩ := (HG_357 hc2).1 hc3
                    refine w_go S rfl (op_load (t := .bool) (x := y_358) S rfl ty4 rfl rfl rfl R_711 ?_)
                    clear S; intro a v_717 R_718 S
                    obtain rfl := RepV.bool R_718
                    refine wpList_nil ?_
                    exact RPost.mk_ S rfl S0 ⟨fun _ => ⟨fun _ => rfl, fun k_ => absurd hc3 k_⟩, fun k_ => absurd hc2 k_⟩ (Below.refl _ _)
                   ·have hl3 : y_350 = false := Bool.eq_false_iff.2 hc3
                    have S1 := S
                    intro v_719 hF_720
                    replace hF_720 := cndF.pos hF_720 hc2
                    obtain rfl := cndF.neg hF_720 hc3
                    replace S1 := S1.put (by decide : 150 < 211) (undef)
                    intro v_721 hF_722
                    replace hF_722 := cndF.pos hF_722 hc2
                    revert hF_722
                    revert v_721
                    intro v_724 hF_723; obtain rfl : .bool y_350 = v_724 := Eq.symm hF_723
                    replace S1 := S1.put (by decide : 147 < 211) (.bool y_350)
                    refine fill_nil S1 ?_; clear S1; intro a_ S1
                    rw [show y_350 = false from hl3] at S1
                    exact RPost.one (v := undef) S1 tys tys_ok rfl (by kernel_rfl) S.defers ⟨fun _ => ⟨fun k_ => absurd k_ hc3, fun _ => rfl⟩, fun k_ => absurd hc2 k_⟩ (Below.refl _ _)
                  ·have hl2 : q_329 = true := (by simpa using hc2)
                   have S1 := S
                   intro v_725 hF_726
                   obtain rfl := cndF.neg hF_726 hc2
                   replace S1 := S1.put (by decide : 150 < 211) (undef)
                   intro v_727 hF_728
                   obtain rfl := cndF.neg hF_728 hc2
                   replace S1 := S1.put (by decide : 147 < 211) (undef)
                   exact RPost.one (v := undef) S1 tys tys_ok rfl (by kernel_rfl) S.defers ⟨fun k_ => absurd k_ hc2, fun _ => rfl⟩ (Below.refl _ _)
                 refine RunAll.cons (cndF q_329 false (cndF y_350 true (eqv (.bool (!y_358))))) [(cndF q_329 false (cndF y_350 true (eqv (.bool y_358))), 151), (cndF q_329 false (eqv (.bool y_350)), 147)] rfl rfl ?_ ?_
                 ·intro W_ hW
                  by_cases hc2 : q_329 = false
                  ·have hl2 : q_329 = false := hc2
                   by_cases hc3 : y_350 = true
                   ·have hl3 : y_350 = true := hc3
                    have S1 := S
                    intro v_729 hF_730
                    replace hF_730 := cndF.pos hF_730 hc2
                    replace hF_730 := cndF.pos hF_730 hc3
                    revert hF_730
                    revert v_729
                    intro v_732 hF_731; obtain rfl : .bool y_358 = v_732 := Eq.symm hF_731
                    replace S1 := S1.put (by decide : 151 < 211) (.bool y_358)
                    intro v_733 hF_734
                    replace hF_734 := cndF.pos hF_734 hc2
                    revert hF_734
                    revert v_733
                    intro v_736 hF_735; obtain rfl : .bool y_350 = v_736 := Eq.symm hF_735
                    replace S1 := S1.put (by decide : 147 < 211) (.bool y_350)
                    refine fill_nil S1 ?_; clear S1; intro a_ S1
                    rw [show y_350 = true from hl3] at S1
                    exact RPost.one (v := .bool (!y_358)) S1 tys tys_ok rfl (by kernel_rfl) S.defers ⟨fun _ => ⟨fun _ => rfl, fun k_ => absurd hc3 k_⟩, fun k_ => absurd hc2 k_⟩ (Below.refl _ _)
                   ·have hl3 : y_350 = false := Bool.eq_false_iff.2 hc3
                    have S1 := S
                    intro v_737 hF_738
                    replace hF_738 := cndF.pos hF_738 hc2
                    obtain rfl := cndF.neg hF_738 hc3
                    replace S1 := S1.put (by decide : 151 < 211) (undef)
                    intro v_739 hF_740
                    replace hF_740 := cndF.pos hF_740 hc2
                    revert hF_740
                    revert v_739
                    intro v_742 hF_741; obtain rfl : .bool y_350 = v_742 := Eq.symm hF_741
                    replace S1 := S1.put (by decide : 147 < 211) (.bool y_350)
                    refine fill_nil S1 ?_; clear S1; intro a_ S1
                    rw [show y_350 = false from hl3] at S1
                    exact RPost.one (v := undef) S1 tys tys_ok rfl (by kernel_rfl) S.defers ⟨fun _ => ⟨fun k_ => absurd k_ hc3, fun _ => rfl⟩, fun k_ => absurd hc2 k_⟩ (Below.refl _ _)
                  ·have hl2 : q_329 = true := (by simpa using hc2)
                   have S1 := S
                   intro v_743 hF_744
                   obtain rfl := cndF.neg hF_744 hc2
                   replace S1 := S1.put (by decide : 151 < 211) (undef)
                   intro v_745 hF_746
                   obtain rfl := cndF.neg hF_746 hc2
                   replace S1 := S1.put (by decide : 147 < 211) (undef)
                   exact RPost.one (v := undef) S1 tys tys_ok rfl (by kernel_rfl) S.defers ⟨fun k_ => absurd k_ hc2, fun _ => rfl⟩ (Below.refl _ _)
                 refine RunAll.cons (cndF q_329 false (eqv (.bool q_356))) [(cndF q_329 false (eqv (.bool y_350)), 147), (cndF q_329 false (cndF y_350 true (eqv (.bool (!y_358)))), 152), (eqv (.bool q_329), 142)] rfl rfl ?_ ?_
                 ·intro W_ hW
                  by_cases hc2 : q_329 = false
                  ·have hl2 : q_329 = false := hc2
                   by_cases hc3 : y_350 = true
                   ·have hl3 : y_350 = true := hc3
                    have S1 := S
                    intro v_747 hF_748
                    replace hF_748 := cndF.pos hF_748 hc2
                    revert hF_748
                    revert v_747
                    intro v_750 hF_749; obtain rfl : .bool y_350 = v_750 := Eq.symm hF_749
                    replace S1 := S1.put (by decide : 147 < 211) (.bool y_350)
                    intro v_751 hF_752
                    replace hF_752 := cndF.pos hF_752 hc2
                    replace hF_752 := cndF.pos hF_752 hc3
                    revert hF_752
                    revert v_751
                    intro v_754 hF_753; obtain rfl : .bool (!y_358) = v_754 := Eq.symm hF_753
                    replace S1 := S1.put (by decide : 152 < 211) (.bool (!y_358))
                    intro v_756 hF_755; obtain rfl : .bool q_329 = v_756 := Eq.symm hF_755
                    replace S1 := S1.put (by decide : 142 < 211) (.bool q_329)
                    refine fill_nil S1 ?_; clear S1; intro a_ S1
                    rw [show q_329 = false from hl2] at S1
                    rw [show y_350 = true from hl3] at S1
                    exact RPost.one (v := .bool (!y_358)) S1 tys tys_ok rfl (by kernel_rfl) S.defers ⟨fun _ => (congrArg Value.bool ((HG_357 hc2).1 hc3).2), fun k_ => absurd hc2 k_⟩ (Below.refl _ _)
                   ·have hl3 : y_350 = false := Bool.eq_false_iff.2 hc3
                    have S1 := S
                    intro v_757 hF_758
                    replace hF_758 := cndF.pos hF_758 hc2
                    revert hF_758
                    revert v_757
                    intro v_760 hF_759; obtain rfl : .bool y_350 = v_760 := Eq.symm hF_759
                    replace S1 := S1.put (by decide : 147 < 211) (.bool y_350)
                    intro v_761 hF_762
                    replace hF_762 := cndF.pos hF_762 hc2
                    obtain rfl := cndF.neg hF_762 hc3
                    replace S1 := S1.put (by decide : 152 < 211) (undef)
                    intro v_764 hF_763; obtain rfl : .bool q_329 = v_764 := Eq.symm hF_763
                    replace S1 := S1.put (by decide : 142 < 211) (.bool q_329)
                    refine fill_nil S1 ?_; clear S1; intro a_ S1
                    rw [show q_329 = false from hl2] at S1
                    rw [show y_350 = false from hl3] at S1
                    exact RPost.one (v := .bool false) S1 tys tys_ok rfl (by kernel_rfl) S.defers ⟨fun _ => (congrArg Value.bool ((HG_357 hc2).2 hc3)), fun k_ => absurd hc2 k_⟩ (Below.refl _ _)
                  ·have hl2 : q_329 = true := (by simpa using hc2)
                   have S1 := S
                   intro v_765 hF_766
                   obtain rfl := cndF.neg hF_766 hc2
                   replace S1 := S1.put (by decide : 147 < 211) (undef)
                   intro v_767 hF_768
                   obtain rfl := cndF.neg hF_768 hc2
                   replace S1 := S1.put (by decide : 152 < 211) (undef)
                   intro v_770 hF_769; obtain rfl : .bool q_329 = v_770 := Eq.symm hF_769
                   replace S1 := S1.put (by decide : 142 < 211) (.bool q_329)
                   refine fill_nil S1 ?_; clear S1; intro a_ S1
                   rw [show q_329 = true from hl2] at S1
                   exact RPost.one (v := undef) S1 tys tys_ok rfl (by kernel_rfl) S.defers ⟨fun k_ => absurd k_ hc2, fun _ => rfl⟩ (Below.refl _ _)
                 refine RunAll.cons (cndF q_329 false (eqv (.bool q_356))) [(cndF q_329 false (eqv (.bool q_356)), 153), (eqv (.bool q_329), 142)] rfl rfl ?_ ?_
                 ·intro W_ hW
                  by_cases hc2 : q_329 = false
                  ·have hl2 : q_329 = false := hc2
                   have S1 := S
                   intro v_771 hF_772
                   replace hF_772 := cndF.pos hF_772 hc2
                   revert hF_772
                   revert v_771
                   intro v_774 hF_773; obtain rfl : .bool q_356 = v_774 := Eq.symm hF_773
                   replace S1 := S1.put (by decide : 153 < 211) (.bool q_356)
                   intro v_776 hF_775; obtain rfl : .bool q_329 = v_776 := Eq.symm hF_775
                   replace S1 := S1.put (by decide : 142 < 211) (.bool q_329)
                   refine fill_nil S1 ?_; clear S1; intro a_ S1
                   rw [show q_329 = false from hl2] at S1
                   exact RPost.one (v := .bool q_356) S1 tys tys_ok rfl (by kernel_rfl) S.defers ⟨fun _ => rfl, fun k_ => absurd hc2 k_⟩ (Below.refl _ _)
                  ·have hl2 : q_329 = true := (by simpa using hc2)
                   have S1 := S
                   intro v_777 hF_778
                   obtain rfl := cndF.neg hF_778 hc2
                   replace S1 := S1.put (by decide : 153 < 211) (undef)
                   intro v_780 hF_779; obtain rfl : .bool q_329 = v_780 := Eq.symm hF_779
                   replace S1 := S1.put (by decide : 142 < 211) (.bool q_329)
                   refine fill_nil S1 ?_; clear S1; intro a_ S1
                   rw [show q_329 = true from hl2] at S1
                   exact RPost.one (v := undef) S1 tys tys_ok rfl (by kernel_rfl) S.defers ⟨fun k_ => absurd k_ hc2, fun _ => rfl⟩ (Below.refl _ _)
                 refine RunAll.cons (cndF q_329 false (cndF q_356 true (isRep (.sl gt2) (Kx K w.heap.size [some b_52]) j_46))) [(cndF q_329 false (eqv (.bool q_356)), 154)] rfl rfl ?_ ?_
                 ·intro W_ hW
                  by_cases hc2 : q_329 = false
                  ·have hl2 : q_329 = false := hc2
                   by_cases hc4 : q_356 = true
                   ·have hl4 : q_356 = true := hc4
                    have S1 := S
                    intro v_781 hF_782
                    replace hF_782 := cndF.pos hF_782 hc2
                    revert hF_782
                    revert v_781
                    intro v_784 hF_783; obtain rfl : .bool q_356 = v_784 := Eq.symm hF_783
                    replace S1 := S1.put (by decide : 154 < 211) (.bool q_356)
                    refine fill_nil S1 ?_; clear S1; intro a_ S1
                    replace R_48 := R_48.step hW
                    rw [show q_356 = true from hl4] at S1
                    exact RPost.one (v := v_47) S1 tys tys_ok rfl (by kernel_rfl) S.defers ⟨fun _ => ⟨fun _ => R_48, fun k_ => absurd hc4 k_⟩, fun k_ => absurd hc2 k_⟩ (Below.refl _ _)
                   ·have hl4 : q_356 = false := Bool.eq_false_iff.2 hc4
                    have S1 := S
                    intro v_785 hF_786
                    replace hF_786 := cndF.pos hF_786 hc2
                    revert hF_786
                    revert v_785
                    intro v_788 hF_787; obtain rfl : .bool q_356 = v_788 := Eq.symm hF_787
                    replace S1 := S1.put (by decide : 154 < 211) (.bool q_356)
                    refine fill_nil S1 ?_; clear S1; intro a_ S1
                    rw [show q_356 = false from hl4] at S1
                    exact RPost.one (v := undef) S1 tys tys_ok rfl (by kernel_rfl) S.defers ⟨fun _ => ⟨fun k_ => absurd k_ hc4, fun _ => rfl⟩, fun k_ => absurd hc2 k_⟩ (Below.refl _ _)
                  ·have hl2 : q_329 = true := (by simpa using hc2)
                   have S1 := S
                   intro v_789 hF_790
                   obtain rfl := cndF.neg hF_790 hc2
                   replace S1 := S1.put (by decide : 154 < 211) (undef)
                   exact RPost.one (v := undef) S1 tys tys_ok rfl (by kernel_rfl) S.defers ⟨fun k_ => absurd k_ hc2, fun _ => rfl⟩ (Below.refl _ _)
                 refine RunAll.cons (cndF q_329 false (cndF q_356 true (isI .i64 c_305))) [(cndF q_329 false (eqv (.bool q_356)), 154)] rfl rfl ?_ ?_
                 ·intro W_ hW
                  by_cases hc2 : q_329 = false
                  ·have hl2 : q_329 = false := hc2
                   by_cases hc4 : q_356 = true
                   ·have hl4 : q_356 = true := hc4
                    have S1 := S
                    intro v_791 hF_792
                    replace hF_792 := cndF.pos hF_792 hc2
                    revert hF_792
                    revert v_791
                    intro v_794 hF_793; obtain rfl : .bool q_356 = v_794 := Eq.symm hF_793
                    replace S1 := S1.put (by decide : 154 < 211) (.bool q_356)
                    refine fill_nil S1 ?_; clear S1; intro a_ S1
                    rw [show q_356 = true from hl4] at S1
                    exact RPost.one (v := .int .i64 c_305) S1 tys tys_ok rfl (by kernel_rfl) S.defers ⟨fun _ => ⟨fun _ => ⟨rfl, G_306⟩, fun k_ => absurd hc4 k_⟩, fun k_ => absurd hc2 k_⟩ (Below.refl _ _)
                   ·have hl4 : q_356 = false := Bool.eq_false_iff.2 hc4
                    have S1 := S
                    intro v_795 hF_796
                    replace hF_796 := cndF.pos hF_796 hc2
                    revert hF_796
                    revert v_795
                    intro v_798 hF_797; obtain rfl : .bool q_356 = v_798 := Eq.symm hF_797
                    replace S1 := S1.put (by decide : 154 < 211) (.bool q_356)
                    refine fill_nil S1 ?_; clear S1; intro a_ S1
                    rw [show q_356 = false from hl4] at S1
                    exact RPost.one (v := undef) S1 tys tys_ok rfl (by kernel_rfl) S.defers ⟨fun _ => ⟨fun k_ => absurd k_ hc4, fun _ => rfl⟩, fun k_ => absurd hc2 k_⟩ (Below.refl _ _)
                  ·have hl2 : q_329 = true := (by simpa using hc2)
                   have S1 := S
                   intro v_799 hF_800
                   obtain rfl := cndF.neg hF_800 hc2
                   replace S1 := S1.put (by decide : 154 < 211) (undef)
                   exact RPost.one (v := undef) S1 tys tys_ok rfl (by kernel_rfl) S.defers ⟨fun k_ => absurd k_ hc2, fun _ => rfl⟩ (Below.refl _ _)
                 refine RunAll.cons (cndF q_329 false (cndF q_356 true (isEl gt2 (Kx K w.heap.size [some b_52]) y_366))) [(cndF q_329 false (cndF q_356 true (isRep (.sl gt2) (Kx K w.heap.size [some b_52]) j_46)), 155), (cndF q_329 false (cndF q_356 true (isI .i64 c_305)), 156), (cndF q_329 false (eqv (.bool q_356)), 154)] rfl rfl ?_ ?_
                 ·intro W_ hW
                  by_cases hc2 : q_329 = false
                  ·have hl2 : q_329 = false := hc2
                   by_cases hc4 : q_356 = true
                   ·have hl4 : q_356 = true := hc4
                    have S1 := S
                    intro v_801 hF_802
                    replace hF_802 := cndF.pos hF_802 hc2
                    replace hF_802 := cndF.pos hF_802 hc4
                    revert hF_802
                    revert v_801
                    intro v_804 hF_803; replace hF_803 : RepV _ _ _ _ _ := hF_803
                    replace S1 := S1.put (by decide : 155 < 211) (v_804)
                    intro v_805 hF_806
                    replace hF_806 := cndF.pos hF_806 hc2
                    replace hF_806 := cndF.pos hF_806 hc4
                    revert hF_806
                    revert v_805
                    rintro _ ⟨rfl, hF_807⟩
                    replace S1 := S1.put (by decide : 156 < 211) (.int .i64 c_305)
                    intro v_809 hF_810
                    replace hF_810 := cndF.pos hF_810 hc2
                    revert hF_810
                    revert v_809
                    intro v_812 hF_811; obtain rfl : .bool q_356 = v_812 := Eq.symm hF_811
                    replace S1 := S1.put (by decide : 154 < 211) (.bool q_356)
                    refine fill_nil S1 ?_; clear S1; intro a_ S1
                    replace W := W.step hW
                    rw [show q_356 = true from hl4] at S1
                    have S0 := S.defers; replace S := S1; clear S1
                    obtain ⟨ey_350, eq_356, eq_364, _⟩ := (HG_349).1 hc2
                    obtain ⟨ey_366, ey_372, et_378, _⟩ := (HG_365 hc2).1 hc4
                    refine w_go S rfl (op_indexAddr S rfl ty25 rfl rfl rfl hF_803 rfl ey_366 ?_)
                    clear S; intro a p_813 R_814 H_815 S
                    refine wpList_nil ?_
                    exact RPost.mk_ S rfl S0 ⟨fun _ => ⟨fun _ => ⟨_, rfl, R_814, H_815⟩, fun k_ => absurd hc4 k_⟩, fun k_ => absurd hc2 k_⟩ (Below.refl _ _)
                   ·have hl4 : q_356 = false := Bool.eq_false_iff.2 hc4
                    have S1 := S
                    intro v_816 hF_817
                    replace hF_817 := cndF.pos hF_817 hc2
                    obtain rfl := cndF.neg hF_817 hc4
                    replace S1 := S1.put (by decide : 155 < 211) (undef)
                    intro v_818 hF_819
                    replace hF_819 := cndF.pos hF_819 hc2
                    obtain rfl := cndF.neg hF_819 hc4
                    replace S1 := S1.put (by decide : 156 < 211) (undef)
                    intro v_820 hF_821
                    replace hF_821 := cndF.pos hF_821 hc2
                    revert hF_821
                    revert v_820
                    intro v_823 hF_822; obtain rfl : .bool q_356 = v_823 := Eq.symm hF_822
                    replace S1 := S1.put (by decide : 154 < 211) (.bool q_356)
                    refine fill_nil S1 ?_; clear S1; intro a_ S1
                    rw [show q_356 = false from hl4] at S1
                    exact RPost.one (v := undef) S1 tys tys_ok rfl (by kernel_rfl) S.defers ⟨fun _ => ⟨fun k_ => absurd k_ hc4, fun _ => rfl⟩, fun k_ => absurd hc2 k_⟩ (Below.refl _ _)
                  ·have hl2 : q_329 = true := (by simpa using hc2)
                   have S1 := S
                   intro v_824 hF_825
                   obtain rfl := cndF.neg hF_825 hc2
                   replace S1 := S1.put (by decide : 155 < 211) (undef)
                   intro v_826 hF_827
                   obtain rfl := cndF.neg hF_827 hc2
                   replace S1 := S1.put (by decide : 156 < 211) (undef)
                   intro v_828 hF_829
                   obtain rfl := cndF.neg hF_829 hc2
                   replace S1 := S1.put (by decide : 154 < 211) (undef)
                   exact RPost.one (v := undef) S1 tys tys_ok rfl (by kernel_rfl) S.defers ⟨fun k_ => absurd k_ hc2, fun _ => rfl⟩ (Below.refl _ _)
                 refine RunAll.cons (cndF q_329 false (cndF q_356 true (isEl (.sl (.int .u8)) (Kx K w.heap.size [some b_52]) y_366.1))) [(cndF q_329 false (cndF q_356 true (isEl gt2 (Kx K w.heap.size [some b_52]) y_366)), 157), (cndF q_329 false (eqv (.bool q_356)), 154)] rfl rfl ?_ ?_
                 ·intro W_ hW
                  by_cases hc2 : q_329 = false
                  ·have hl2 : q_329 = false := hc2
                   by_cases hc4 : q_356 = true
                   ·have hl4 : q_356 = true := hc4
                    have S1 := S
                    intro v_830 hF_831
                    replace hF_831 := cndF.pos hF_831 hc2
                    replace hF_831 := cndF.pos hF_831 hc4
                    revert hF_831
                    revert v_830
                    rintro _ ⟨p_834, rfl, R_835, H_836⟩
                    replace S1 := S1.put (by decide : 157 < 211) (.pointer (some p_834))
                    intro v_837 hF_838
                    replace hF_838 := cndF.pos hF_838 hc2
                    revert hF_838
                    revert v_837
                    intro v_840 hF_839; obtain rfl : .bool q_356 = v_840 := Eq.symm hF_839
                    replace S1 := S1.put (by decide : 154 < 211) (.bool q_356)
                    refine fill_nil S1 ?_; clear S1; intro a_ S1
                    rw [show q_356 = true from hl4] at S1
                    exact RPost.one (v := .pointer (some (p_834.add (coff gf2 0)))) S1 tys tys_ok rfl (by kernel_rfl) S.defers ⟨fun _ => ⟨fun _ => ⟨_, rfl, (RepAt.add 0 (RepAt.st (t := gf2) R_835)), (by simpa [Addr.add] using H_836)⟩, fun k_ => absurd hc4 k_⟩, fun k_ => absurd hc2 k_⟩ (Below.refl _ _)
                   ·have hl4 : q_356 = false := Bool.eq_false_iff.2 hc4
                    have S1 := S
                    intro v_841 hF_842
                    replace hF_842 := cndF.pos hF_842 hc2
                    obtain rfl := cndF.neg hF_842 hc4
                    replace S1 := S1.put (by decide : 157 < 211) (undef)
                    intro v_843 hF_844
                    replace hF_844 := cndF.pos hF_844 hc2
                    revert hF_844
                    revert v_843
                    intro v_846 hF_845; obtain rfl : .bool q_356 = v_846 := Eq.symm hF_845
                    replace S1 := S1.put (by decide : 154 < 211) (.bool q_356)
                    refine fill_nil S1 ?_; clear S1; intro a_ S1
                    rw [show q_356 = false from hl4] at S1
                    exact RPost.one (v := undef) S1 tys tys_ok rfl (by kernel_rfl) S.defers ⟨fun _ => ⟨fun k_ => absurd k_ hc4, fun _ => rfl⟩, fun k_ => absurd hc2 k_⟩ (Below.refl _ _)
                  ·have hl2 : q_329 = true := (by simpa using hc2)
                   have S1 := S
                   intro v_847 hF_848
                   obtain rfl := cndF.neg hF_848 hc2
                   replace S1 := S1.put (by decide : 157 < 211) (undef)
                   intro v_849 hF_850
                   obtain rfl := cndF.neg hF_850 hc2
                   replace S1 := S1.put (by decide : 154 < 211) (undef)
                   exact RPost.one (v := undef) S1 tys tys_ok rfl (by kernel_rfl) S.defers ⟨fun k_ => absurd k_ hc2, fun _ => rfl⟩ (Below.refl _ _)
                 refine RunAll.cons (cndF q_329 false (cndF q_356 true (isRep (.sl (.int .u8)) (Kx K w.heap.size [some b_52]) y_366.1))) [(cndF q_329 false (cndF q_356 true (isEl (.sl (.int .u8)) (Kx K w.heap.size [some b_52]) y_366.1)), 158), (cndF q_329 false (eqv (.bool q_356)), 154)] rfl rfl ?_ ?_
                 ·intro W_ hW
                  by_cases hc2 : q_329 = false
                  ·have hl2 : q_329 = false := hc2
                   by_cases hc4 : q_356 = true
                   ·have hl4 : q_356 = true := hc4
                    have S1 := S
                    intro v_851 hF_852
                    replace hF_852 := cndF.pos hF_852 hc2
                    replace hF_852 := cndF.pos hF_852 hc4
                    revert hF_852
                    revert v_851
                    rintro _ ⟨p_855, rfl, R_856, H_857⟩
                    replace S1 := S1.put (by decide : 158 < 211) (.pointer (some p_855))
                    intro v_858 hF_859
                    replace hF_859 := cndF.pos hF_859 hc2
                    revert hF_859
                    revert v_858
                    intro v_861 hF_860; obtain rfl : .bool q_356 = v_861 := Eq.symm hF_860
                    replace S1 := S1.put (by decide : 154 < 211) (.bool q_356)
                    refine fill_nil S1 ?_; clear S1; intro a_ S1
                    rw [show q_356 = true from hl4] at S1
                    have S0 := S.defers; replace S := S1; clear S1
                    obtain ⟨ey_350, eq_356, eq_364, _⟩ := (HG_349).1 hc2
                    obtain ⟨ey_366, ey_372, et_378, _⟩ := (HG_365 hc2).1 hc4
                    refine w_go S rfl (op_load (t := (.sl (.int .u8))) (x := y_366.1) S rfl ty35 rfl rfl rfl R_856 ?_)
                    clear S; intro a v_862 R_863 S
                    refine wpList_nil ?_
                    exact RPost.mk_ S rfl S0 ⟨fun _ => ⟨fun _ => R_863, fun k_ => absurd hc4 k_⟩, fun k_ => absurd hc2 k_⟩ (Below.refl _ _)
                   ·have hl4 : q_356 = false := Bool.eq_false_iff.2 hc4
                    have S1 := S
                    intro v_864 hF_865
                    replace hF_865 := cndF.pos hF_865 hc2
                    obtain rfl := cndF.neg hF_865 hc4
                    replace S1 := S1.put (by decide : 158 < 211) (undef)
                    intro v_866 hF_867
                    replace hF_867 := cndF.pos hF_867 hc2
                    revert hF_867
                    revert v_866
                    intro v_869 hF_868; obtain rfl : .bool q_356 = v_869 := Eq.symm hF_868
                    replace S1 := S1.put (by decide : 154 < 211) (.bool q_356)
                    refine fill_nil S1 ?_; clear S1; intro a_ S1
                    rw [show q_356 = false from hl4] at S1
                    exact RPost.one (v := undef) S1 tys tys_ok rfl (by kernel_rfl) S.defers ⟨fun _ => ⟨fun k_ => absurd k_ hc4, fun _ => rfl⟩, fun k_ => absurd hc2 k_⟩ (Below.refl _ _)
                  ·have hl2 : q_329 = true := (by simpa using hc2)
                   have S1 := S
                   intro v_870 hF_871
                   obtain rfl := cndF.neg hF_871 hc2
                   replace S1 := S1.put (by decide : 158 < 211) (undef)
                   intro v_872 hF_873
                   obtain rfl := cndF.neg hF_873 hc2
                   replace S1 := S1.put (by decide : 154 < 211) (undef)
                   exact RPost.one (v := undef) S1 tys tys_ok rfl (by kernel_rfl) S.defers ⟨fun k_ => absurd k_ hc2, fun _ => rfl⟩ (Below.refl _ _)
                 refine RunAll.cons (cndF q_329 false (cndF q_356 true (isRep (.sl gt2) (Kx K w.heap.size [some b_52]) j_46))) [(cndF q_329 false (eqv (.bool q_356)), 154)] rfl rfl ?_ ?_
                 ·intro W_ hW
                  by_cases hc2 : q_329 = false
                  ·have hl2 : q_329 = false := hc2
                   by_cases hc4 : q_356 = true
                   ·have hl4 : q_356 = true := hc4
                    have S1 := S
                    intro v_874 hF_875
                    replace hF_875 := cndF.pos hF_875 hc2
                    revert hF_875
                    revert v_874
                    intro v_877 hF_876; obtain rfl : .bool q_356 = v_877 := Eq.symm hF_876
                    replace S1 := S1.put (by decide : 154 < 211) (.bool q_356)
                    refine fill_nil S1 ?_; clear S1; intro a_ S1
                    replace R_48 := R_48.step hW
                    rw [show q_356 = true from hl4] at S1
                    exact RPost.one (v := v_47) S1 tys tys_ok rfl (by kernel_rfl) S.defers ⟨fun _ => ⟨fun _ => R_48, fun k_ => absurd hc4 k_⟩, fun k_ => absurd hc2 k_⟩ (Below.refl _ _)
                   ·have hl4 : q_356 = false := Bool.eq_false_iff.2 hc4
                    have S1 := S
                    intro v_878 hF_879
                    replace hF_879 := cndF.pos hF_879 hc2
                    revert hF_879
                    revert v_878
                    intro v_881 hF_880; obtain rfl : .bool q_356 = v_881 := Eq.symm hF_880
                    replace S1 := S1.put (by decide : 154 < 211) (.bool q_356)
                    refine fill_nil S1 ?_; clear S1; intro a_ S1
                    rw [show q_356 = false from hl4] at S1
                    exact RPost.one (v := undef) S1 tys tys_ok rfl (by kernel_rfl) S.defers ⟨fun _ => ⟨fun k_ => absurd k_ hc4, fun _ => rfl⟩, fun k_ => absurd hc2 k_⟩ (Below.refl _ _)
                  ·have hl2 : q_329 = true := (by simpa using hc2)
                   have S1 := S
                   intro v_882 hF_883
                   obtain rfl := cndF.neg hF_883 hc2
                   replace S1 := S1.put (by decide : 154 < 211) (undef)
                   exact RPost.one (v := undef) S1 tys tys_ok rfl (by kernel_rfl) S.defers ⟨fun k_ => absurd k_ hc2, fun _ => rfl⟩ (Below.refl _ _)
                 refine RunAll.cons (cndF q_329 false (cndF q_356 true (isI .i64 t_125))) [(cndF q_329 false (eqv (.bool q_356)), 154)] rfl rfl ?_ ?_
                 ·intro W_ hW
                  by_cases hc2 : q_329 = false
                  ·have hl2 : q_329 = false := hc2
                   by_cases hc4 : q_356 = true
                   ·have hl4 : q_356 = true := hc4
                    have S1 := S
                    intro v_884 hF_885
                    replace hF_885 := cndF.pos hF_885 hc2
                    revert hF_885
                    revert v_884
                    intro v_887 hF_886; obtain rfl : .bool q_356 = v_887 := Eq.symm hF_886
                    replace S1 := S1.put (by decide : 154 < 211) (.bool q_356)
                    refine fill_nil S1 ?_; clear S1; intro a_ S1
                    rw [show q_356 = true from hl4] at S1
                    exact RPost.one (v := .int .i64 t_125) S1 tys tys_ok rfl (by kernel_rfl) S.defers ⟨fun _ => ⟨fun _ => ⟨rfl, GR_127⟩, fun k_ => absurd hc4 k_⟩, fun k_ => absurd hc2 k_⟩ (Below.refl _ _)
                   ·have hl4 : q_356 = false := Bool.eq_false_iff.2 hc4
                    have S1 := S
                    intro v_888 hF_889
                    replace hF_889 := cndF.pos hF_889 hc2
                    revert hF_889
                    revert v_888
                    intro v_891 hF_890; obtain rfl : .bool q_356 = v_891 := Eq.symm hF_890
                    replace S1 := S1.put (by decide : 154 < 211) (.bool q_356)
                    refine fill_nil S1 ?_; clear S1; intro a_ S1
                    rw [show q_356 = false from hl4] at S1
                    exact RPost.one (v := undef) S1 tys tys_ok rfl (by kernel_rfl) S.defers ⟨fun _ => ⟨fun k_ => absurd k_ hc4, fun _ => rfl⟩, fun k_ => absurd hc2 k_⟩ (Below.refl _ _)
                  ·have hl2 : q_329 = true := (by simpa using hc2)
                   have S1 := S
                   intro v_892 hF_893
                   obtain rfl := cndF.neg hF_893 hc2
                   replace S1 := S1.put (by decide : 154 < 211) (undef)
                   exact RPost.one (v := undef) S1 tys tys_ok rfl (by kernel_rfl) S.defers ⟨fun k_ => absurd k_ hc2, fun _ => rfl⟩ (Below.refl _ _)
                 refine RunAll.cons (cndF q_329 false (cndF q_356 true (isEl gt2 (Kx K w.heap.size [some b_52]) y_372))) [(cndF q_329 false (cndF q_356 true (isRep (.sl gt2) (Kx K w.heap.size [some b_52]) j_46)), 160), (cndF q_329 false (cndF q_356 true (isI .i64 t_125)), 161), (cndF q_329 false (eqv (.bool q_356)), 154)] rfl rfl ?_ ?_
                 ·intro W_ hW
                  by_cases hc2 : q_329 = false
                  ·have hl2 : q_329 = false := hc2
                   by_cases hc4 : q_356 = true
                   ·have hl4 : q_356 = true := hc4
                    have S1 := S
                    intro v_894 hF_895
                    replace hF_895 := cndF.pos hF_895 hc2
                    replace hF_895 := cndF.pos hF_895 hc4
                    revert hF_895
                    revert v_894
                    intro v_897 hF_896; replace hF_896 : RepV _ _ _ _ _ := hF_896
                    replace S1 := S1.put (by decide : 160 < 211) (v_897)
                    intro v_898 hF_899
                    replace hF_899 := cndF.pos hF_899 hc2
                    replace hF_899 := cndF.pos hF_899 hc4
                    revert hF_899
                    revert v_898
                    rintro _ ⟨rfl, hF_900⟩
                    replace S1 := S1.put (by decide : 161 < 211) (.int .i64 t_125)
                    intro v_902 hF_903
                    replace hF_903 := cndF.pos hF_903 hc2
                    revert hF_903
                    revert v_902
                    intro v_905 hF_904; obtain rfl : .bool q_356 = v_905 := Eq.symm hF_904
                    replace S1 := S1.put (by decide : 154 < 211) (.bool q_356)
                    refine fill_nil S1 ?_; clear S1; intro a_ S1
                    replace W := W.step hW
                    rw [show q_356 = true from hl4] at S1
                    have S0 := S.defers; replace S := S1; clear S1
                    obtain ⟨ey_350, eq_356, eq_364, _⟩ := (HG_349).1 hc2
                    obtain ⟨ey_366, ey_372, et_378, _⟩ := (HG_365 hc2).1 hc4
                    refine w_go S rfl (op_indexAddr S rfl ty25 rfl rfl rfl hF_896 rfl ey_372 ?_)
                    clear S; intro a p_906 R_907 H_908 S
                    refine wpList_nil ?_
                    exact RPost.mk_ S rfl S0 ⟨fun _ => ⟨fun _ => ⟨_, rfl, R_907, H_908⟩, fun k_ => absurd hc4 k_⟩, fun k_ => absurd hc2 k_⟩ (Below.refl _ _)
                   ·have hl4 : q_356 = false := Bool.eq_false_iff.2 hc4
                    have S1 := S
                    intro v_909 hF_910
                    replace hF_910 := cndF.pos hF_910 hc2
                    obtain rfl := cndF.neg hF_910 hc4
                    replace S1 := S1.put (by decide : 160 < 211) (undef)
                    intro v_911 hF_912
                    replace hF_912 := cndF.pos hF_912 hc2
                    obtain rfl := cndF.neg hF_912 hc4
                    replace S1 := S1.put (by decide : 161 < 211) (undef)
                    intro v_913 hF_914
                    replace hF_914 := cndF.pos hF_914 hc2
                    revert hF_914
                    revert v_913
                    intro v_916 hF_915; obtain rfl : .bool q_356 = v_916 := Eq.symm hF_915
                    replace S1 := S1.put (by decide : 154 < 211) (.bool q_356)
                    refine fill_nil S1 ?_; clear S1; intro a_ S1
                    rw [show q_356 = false from hl4] at S1
                    exact RPost.one (v := undef) S1 tys tys_ok rfl (by kernel_rfl) S.defers ⟨fun _ => ⟨fun k_ => absurd k_ hc4, fun _ => rfl⟩, fun k_ => absurd hc2 k_⟩ (Below.refl _ _)
                  ·have hl2 : q_329 = true := (by simpa using hc2)
                   have S1 := S
                   intro v_917 hF_918
                   obtain rfl := cndF.neg hF_918 hc2
                   replace S1 := S1.put (by decide : 160 < 211) (undef)
                   intro v_919 hF_920
                   obtain rfl := cndF.neg hF_920 hc2
                   replace S1 := S1.put (by decide : 161 < 211) (undef)
                   intro v_921 hF_922
                   obtain rfl := cndF.neg hF_922 hc2
                   replace S1 := S1.put (by decide : 154 < 211) (undef)
                   exact RPost.one (v := undef) S1 tys tys_ok rfl (by kernel_rfl) S.defers ⟨fun k_ => absurd k_ hc2, fun _ => rfl⟩ (Below.refl _ _)
                 refine RunAll.cons (cndF q_329 false (cndF q_356 true (isEl (.sl (.int .u8)) (Kx K w.heap.size [some b_52]) y_372.1))) [(cndF q_329 false (cndF q_356 true (isEl gt2 (Kx K w.heap.size [some b_52]) y_372)), 162), (cndF q_329 false (eqv (.bool q_356)), 154)] rfl rfl ?_ ?_
                 ·intro W_ hW
                  by_cases hc2 : q_329 = false
                  ·have hl2 : q_329 = false := hc2
                   by_cases hc4 : q_356 = true
                   ·have hl4 : q_356 = true := hc4
                    have S1 := S
                    intro v_923 hF_924
                    replace hF_924 := cndF.pos hF_924 hc2
                    replace hF_924 := cndF.pos hF_924 hc4
                    revert hF_924
                    revert v_923
                    rintro _ ⟨p_927, rfl, R_928, H_929⟩
                    replace S1 := S1.put (by decide : 162 < 211) (.pointer (some p_927))
                    intro v_930 hF_931
                    replace hF_931 := cndF.pos hF_931 hc2
                    revert hF_931
                    revert v_930
                    intro v_933 hF_932; obtain rfl : .bool q_356 = v_933 := Eq.symm hF_932
                    replace S1 := S1.put (by decide : 154 < 211) (.bool q_356)
                    refine fill_nil S1 ?_; clear S1; intro a_ S1
                    rw [show q_356 = true from hl4] at S1
                    exact RPost.one (v := .pointer (some (p_927.add (coff gf2 0)))) S1 tys tys_ok rfl (by kernel_rfl) S.defers ⟨fun _ => ⟨fun _ => ⟨_, rfl, (RepAt.add 0 (RepAt.st (t := gf2) R_928)), (by simpa [Addr.add] using H_929)⟩, fun k_ => absurd hc4 k_⟩, fun k_ => absurd hc2 k_⟩ (Below.refl _ _)
                   ·have hl4 : q_356 = false := Bool.eq_false_iff.2 hc4
                    have S1 := S
                    intro v_934 hF_935
                    replace hF_935 := cndF.pos hF_935 hc2
                    obtain rfl := cndF.neg hF_935 hc4
                    replace S1 := S1.put (by decide : 162 < 211) (undef)
                    intro v_936 hF_937
                    replace hF_937 := cndF.pos hF_937 hc2
                    revert hF_937
                    revert v_936
                    intro v_939 hF_938; obtain rfl : .bool q_356 = v_939 := Eq.symm hF_938
                    replace S1 := S1.put (by decide : 154 < 211) (.bool q_356)
                    refine fill_nil S1 ?_; clear S1; intro a_ S1
                    rw [show q_356 = false from hl4] at S1
                    exact RPost.one (v := undef) S1 tys tys_ok rfl (by kernel_rfl) S.defers ⟨fun _ => ⟨fun k_ => absurd k_ hc4, fun _ => rfl⟩, fun k_ => absurd hc2 k_⟩ (Below.refl _ _)
                  ·have hl2 : q_329 = true := (by simpa using hc2)
                   have S1 := S
                   intro v_940 hF_941
                   obtain rfl := cndF.neg hF_941 hc2
                   replace S1 := S1.put (by decide : 162 < 211) (undef)
                   intro v_942 hF_943
                   obtain rfl := cndF.neg hF_943 hc2
                   replace S1 := S1.put (by decide : 154 < 211) (undef)
                   exact RPost.one (v := undef) S1 tys tys_ok rfl (by kernel_rfl) S.defers ⟨fun k_ => absurd k_ hc2, fun _ => rfl⟩ (Below.refl _ _)
                 refine RunAll.cons (cndF q_329 false (cndF q_356 true (isRep (.sl (.int .u8)) (Kx K w.heap.size [some b_52]) y_372.1))) [(cndF q_329 false (cndF q_356 true (isEl (.sl (.int .u8)) (Kx K w.heap.size [some b_52]) y_372.1)), 163), (cndF q_329 false (eqv (.bool q_356)), 154)] rfl rfl ?_ ?_
                 ·intro W_ hW
                  by_cases hc2 : q_329 = false
                  ·have hl2 : q_329 = false := hc2
                   by_cases hc4 : q_356 = true
                   ·have hl4 : q_356 = true := hc4
                    have S1 := S
                    intro v_944 hF_945
                    replace hF_945 := cndF.pos hF_945 hc2
                    replace hF_945 := cndF.pos hF_945 hc4
                    revert hF_945
                    revert v_944
                    rintro _ ⟨p_948, rfl, R_949, H_950⟩
                    replace S1 := S1.put (by decide : 163 < 211) (.pointer (some p_948))
                    intro v_951 hF_952
                    replace hF_952 := cndF.pos hF_952 hc2
                    revert hF_952
                    revert v_951
                    intro v_954 hF_953; obtain rfl : .bool q_356 = v_954 := Eq.symm hF_953
                    replace S1 := S1.put (by decide : 154 < 211) (.bool q_356)
                    refine fill_nil S1 ?_; clear S1; intro a_ S1
                    rw [show q_356 = true from hl4] at S1
                    have S0 := S.defers; replace S := S1; clear S1
                    obtain ⟨ey_350, eq_356, eq_364, _⟩ := (HG_349).1 hc2
                    obtain ⟨ey_366, ey_372, et_378, _⟩ := (HG_365 hc2).1 hc4
                    refine w_go S rfl (op_load (t := (.sl (.int .u8))) (x := y_372.1) S rfl ty35 rfl rfl rfl R_949 ?_)
                    clear S; intro a v_955 R_956 S
                    refine wpList_nil ?_
                    exact RPost.mk_ S rfl S0 ⟨fun _ => ⟨fun _ => R_956, fun k_ => absurd hc4 k_⟩, fun k_ => absurd hc2 k_⟩ (Below.refl _ _)
                   ·have hl4 : q_356 = false := Bool.eq_false_iff.2 hc4
                    have S1 := S
                    intro v_957 hF_958
                    replace hF_958 := cndF.pos hF_958 hc2
                    obtain rfl := cndF.neg hF_958 hc4
                    replace S1 := S1.put (by decide : 163 < 211) (undef)
                    intro v_959 hF_960
                    replace hF_960 := cndF.pos hF_960 hc2
                    revert hF_960
                    revert v_959
                    intro v_962 hF_961; obtain rfl : .bool q_356 = v_962 := Eq.symm hF_961
                    replace S1 := S1.put (by decide : 154 < 211) (.bool q_356)
                    refine fill_nil S1 ?_; clear S1; intro a_ S1
                    rw [show q_356 = false from hl4] at S1
                    exact RPost.one (v := undef) S1 tys tys_ok rfl (by kernel_rfl) S.defers ⟨fun _ => ⟨fun k_ => absurd k_ hc4, fun _ => rfl⟩, fun k_ => absurd hc2 k_⟩ (Below.refl _ _)
                  ·have hl2 : q_329 = true := (by simpa using hc2)
                   have S1 := S
                   intro v_963 hF_964
                   obtain rfl := cndF.neg hF_964 hc2
                   replace S1 := S1.put (by decide : 163 < 211) (undef)
                   intro v_965 hF_966
                   obtain rfl := cndF.neg hF_966 hc2
                   replace S1 := S1.put (by decide : 154 < 211) (undef)
                   exact RPost.one (v := undef) S1 tys tys_ok rfl (by kernel_rfl) S.defers ⟨fun k_ => absurd k_ hc2, fun _ => rfl⟩ (Below.refl _ _)
                 refine RunAll.cons (cndF q_329 false (cndF q_356 true (eqv (.bool t_378)))) [(cndF q_329 false (cndF q_356 true (isRep (.sl (.int .u8)) (Kx K w.heap.size [some b_52]) y_366.1)), 159), (cndF q_329 false (cndF q_356 true (isRep (.sl (.int .u8)) (Kx K w.heap.size [some b_52]) y_372.1)), 164), (cndF q_329 false (eqv (.bool q_356)), 154)] rfl rfl ?_ ?_
                 ·intro W_ hW
                  by_cases hc2 : q_329 = false
                  ·have hl2 : q_329 = false := hc2
                   by_cases hc4 : q_356 = true
                   ·have hl4 : q_356 = true := hc4
                    have S1 := S
                    intro v_967 hF_968
                    replace hF_968 := cndF.pos hF_968 hc2
                    replace hF_968 := cndF.pos hF_968 hc4
                    revert hF_968
                    revert v_967
                    intro v_970 hF_969; replace hF_969 : RepV _ _ _ _ _ := hF_969
                    replace S1 := S1.put (by decide : 159 < 211) (v_970)
                    intro v_971 hF_972
                    replace hF_972 := cndF.pos hF_972 hc2
                    replace hF_972 := cndF.pos hF_972 hc4
                    revert hF_972
                    revert v_971
                    intro v_974 hF_973; replace hF_973 : RepV _ _ _ _ _ := hF_973
                    replace S1 := S1.put (by decide : 164 < 211) (v_974)
                    intro v_975 hF_976
                    replace hF_976 := cndF.pos hF_976 hc2
                    revert hF_976
                    revert v_975
                    intro v_978 hF_977; obtain rfl : .bool q_356 = v_978 := Eq.symm hF_977
                    replace S1 := S1.put (by decide : 154 < 211) (.bool q_356)
                    refine fill_nil S1 ?_; clear S1; intro a_ S1
                    replace W := W.step hW
                    rw [show q_356 = true from hl4] at S1
                    have S0 := S.defers; replace S := S1; clear S1
                    obtain ⟨ey_350, eq_356, eq_364, _⟩ := (HG_349).1 hc2
                    obtain ⟨ey_366, ey_372, et_378, _⟩ := (HG_365 hc2).1 hc4
                    refine w_go S rfl (op_call (vs := [v_970, v_974]) S rfl cb11 rfl rfl rfl (c11 (Kx K w.heap.size [some b_52]) n W_ y_366.1 _ hF_969 y_372.1 _ hF_973 et_378) ?_)
                    rintro _ w_982 ⟨v_979, rfl, R_980, hb_981⟩; refine ⟨_, rfl, ?_⟩
                    replace R_980 := RepV.back R_980 W
                    clear S; intro a S
                    obtain rfl := RepV.bool R_980
                    refine wpList_nil ?_
                    exact RPost.mk_ S rfl S0 ⟨fun _ => ⟨fun _ => rfl, fun k_ => absurd hc4 k_⟩, fun k_ => absurd hc2 k_⟩ (hb_981)
                   ·have hl4 : q_356 = false := Bool.eq_false_iff.2 hc4
                    have S1 := S
                    intro v_983 hF_984
                    replace hF_984 := cndF.pos hF_984 hc2
                    obtain rfl := cndF.neg hF_984 hc4
                    replace S1 := S1.put (by decide : 159 < 211) (undef)
                    intro v_985 hF_986
                    replace hF_986 := cndF.pos hF_986 hc2
                    obtain rfl := cndF.neg hF_986 hc4
                    replace S1 := S1.put (by decide : 164 < 211) (undef)
                    intro v_987 hF_988
                    replace hF_988 := cndF.pos hF_988 hc2
                    revert hF_988
                    revert v_987
                    intro v_990 hF_989; obtain rfl : .bool q_356 = v_990 := Eq.symm hF_989
                    replace S1 := S1.put (by decide : 154 < 211) (.bool q_356)
                    refine fill_nil S1 ?_; clear S1; intro a_ S1
                    rw [show q_356 = false from hl4] at S1
                    exact RPost.one (v := undef) S1 tys tys_ok rfl (by kernel_rfl) S.defers ⟨fun _ => ⟨fun k_ => absurd k_ hc4, fun _ => rfl⟩, fun k_ => absurd hc2 k_⟩ (Below.refl _ _)
                  ·have hl2 : q_329 = true := (by simpa using hc2)
                   have S1 := S
                   intro v_991 hF_992
                   obtain rfl := cndF.neg hF_992 hc2
                   replace S1 := S1.put (by decide : 159 < 211) (undef)
                   intro v_993 hF_994
                   obtain rfl := cndF.neg hF_994 hc2
                   replace S1 := S1.put (by decide : 164 < 211) (undef)
                   intro v_995 hF_996
                   obtain rfl := cndF.neg hF_996 hc2
                   replace S1 := S1.put (by decide : 154 < 211) (undef)
                   exact RPost.one (v := undef) S1 tys tys_ok rfl (by kernel_rfl) S.defers ⟨fun k_ => absurd k_ hc2, fun _ => rfl⟩ (Below.refl _ _)
                 refine RunAll.cons (cndF q_329 false (eqv (.bool q_364))) [(cndF q_329 false (eqv (.bool q_356)), 154), (cndF q_329 false (cndF q_356 true (eqv (.bool t_378))), 165), (eqv (.bool q_329), 142)] rfl rfl ?_ ?_
                 ·intro W_ hW
                  by_cases hc2 : q_329 = false
                  ·have hl2 : q_329 = false := hc2
                   by_cases hc4 : q_356 = true
                   ·have hl4 : q_356 = true := hc4
                    have S1 := S
                    intro v_997 hF_998
                    replace hF_998 := cndF.pos hF_998 hc2
                    revert hF_998
                    revert v_997
                    intro v_1000 hF_999; obtain rfl : .bool q_356 = v_1000 := Eq.symm hF_999
                    replace S1 := S1.put (by decide : 154 < 211) (.bool q_356)
                    intro v_1001 hF_1002
                    replace hF_1002 := cndF.pos hF_1002 hc2
                    replace hF_1002 := cndF.pos hF_1002 hc4
                    revert hF_1002
                    revert v_1001
                    intro v_1004 hF_1003; obtain rfl : .bool t_378 = v_1004 := Eq.symm hF_1003
                    replace S1 := S1.put (by decide : 165 < 211) (.bool t_378)
                    intro v_1006 hF_1005; obtain rfl : .bool q_329 = v_1006 := Eq.symm hF_1005
                    replace S1 := S1.put (by decide : 142 < 211) (.bool q_329)
                    refine fill_nil S1 ?_; clear S1; intro a_ S1
                    rw [show q_329 = false from hl2] at S1
                    rw [show q_356 = true from hl4] at S1
                    exact RPost.one (v := .bool t_378) S1 tys tys_ok rfl (by kernel_rfl) S.defers ⟨fun _ => (congrArg Value.bool ((HG_365 hc2).1 hc4).2.2.2), fun k_ => absurd hc2 k_⟩ (Below.refl _ _)
                   ·have hl4 : q_356 = false := Bool.eq_false_iff.2 hc4
                    have S1 := S
                    intro v_1007 hF_1008
                    replace hF_1008 := cndF.pos hF_1008 hc2
                    revert hF_1008
                    revert v_1007
                    intro v_1010 hF_1009; obtain rfl : .bool q_356 = v_1010 := Eq.symm hF_1009
                    replace S1 := S1.put (by decide : 154 < 211) (.bool q_356)
                    intro v_1011 hF_1012
                    replace hF_1012 := cndF.pos hF_1012 hc2
                    obtain rfl := cndF.neg hF_1012 hc4
                    replace S1 := S1.put (by decide : 165 < 211) (undef)
                    intro v_1014 hF_1013; obtain rfl : .bool q_329 = v_1014 := Eq.symm hF_1013
                    replace S1 := S1.put (by decide : 142 < 211) (.bool q_329)
                    refine fill_nil S1 ?_; clear S1; intro a_ S1
                    rw [show q_329 = false from hl2] at S1
                    rw [show q_356 = false from hl4] at S1
                    exact RPost.one (v := .bool false) S1 tys tys_ok rfl (by kernel_rfl) S.defers ⟨fun _ => (congrArg Value.bool ((HG_365 hc2).2 hc4)), fun k_ => absurd hc2 k_⟩ (Below.refl _ _)
                  ·have hl2 : q_329 = true := (by simpa using hc2)
                   have S1 := S
                   intro v_1015 hF_1016
                   obtain rfl := cndF.neg hF_1016 hc2
                   replace S1 := S1.put (by decide : 154 < 211) (undef)
                   intro v_1017 hF_1018
                   obtain rfl := cndF.neg hF_1018 hc2
                   replace S1 := S1.put (by decide : 165 < 211) (undef)
                   intro v_1020 hF_1019; obtain rfl : .bool q_329 = v_1020 := Eq.symm hF_1019
                   replace S1 := S1.put (by decide : 142 < 211) (.bool q_329)
                   refine fill_nil S1 ?_; clear S1; intro a_ S1
                   rw [show q_329 = true from hl2] at S1
                   exact RPost.one (v := undef) S1 tys tys_ok rfl (by kernel_rfl) S.defers ⟨fun k_ => absurd k_ hc2, fun _ => rfl⟩ (Below.refl _ _)
                 refine RunAll.cons (eqv (.bool q_348)) [(eqv (.bool q_329), 142), (cndF q_329 false (eqv (.bool q_364)), 166)] rfl rfl ?_ ?_
                 ·intro W_ hW
                  by_cases hc2 : q_329 = false
                  ·have hl2 : q_329 = false := hc2
                   have S1 := S
                   intro v_1022 hF_1021; obtain rfl : .bool q_329 = v_1022 := Eq.symm hF_1021
                   replace S1 := S1.put (by decide : 142 < 211) (.bool q_329)
                   intro v_1023 hF_1024
                   replace hF_1024 := cndF.pos hF_1024 hc2
                   revert hF_1024
                   revert v_1023
                   intro v_1026 hF_1025; obtain rfl : .bool q_364 = v_1026 := Eq.symm hF_1025
                   replace S1 := S1.put (by decide : 166 < 211) (.bool q_364)
                   refine fill_nil S1 ?_; clear S1; intro a_ S1
                   rw [show q_329 = false from hl2] at S1
                   exact RPost.one (v := .bool q_364) S1 tys tys_ok rfl (by kernel_rfl) S.defers (congrArg Value.bool ((HG_349).1 hc2).2.2.2) (Below.refl _ _)
                  ·have hl2 : q_329 = true := (by simpa using hc2)
                   have S1 := S
                   intro v_1028 hF_1027; obtain rfl : .bool q_329 = v_1028 := Eq.symm hF_1027
                   replace S1 := S1.put (by decide : 142 < 211) (.bool q_329)
                   intro v_1029 hF_1030
                   obtain rfl := cndF.neg hF_1030 hc2
                   replace S1 := S1.put (by decide : 166 < 211) (undef)
                   refine fill_nil S1 ?_; clear S1; intro a_ S1
                   rw [show q_329 = true from hl2] at S1
                   exact RPost.one (v := .bool true) S1 tys tys_ok rfl (by kernel_rfl) S.defers (congrArg Value.bool ((HG_349).2 hc2)) (Below.refl _ _)
                 exact trivial
                intro w_1031 hb_1032
                refine EndE.some_ rfl ?_
                intro v_1034 hF_1033; obtain rfl : (.slice (some ⟨b_52, 0, .none⟩) m_51.1 m_51.2) = v_1034 := Eq.symm hF_1033
                replace S := S.put (by decide : 118 < 211) ((.slice (some ⟨b_52, 0, .none⟩) m_51.1 m_51.2))
                refine EndE.some_ rfl ?_
                rintro _ ⟨rfl, hF_1035⟩
                replace S := S.put (by decide : 119 < 211) (.int .i64 t_125)
                refine EndE.some_ rfl ?_
                rintro _ ⟨p_1039, rfl, R_1040, H_1041⟩
                replace S := S.put (by decide : 120 < 211) (.pointer (some p_1039))
                refine EndE.some_ rfl ?_
                intro v_1043 hF_1042; obtain rfl : .bool y_315 = v_1043 := Eq.symm hF_1042
                replace S := S.put (by decide : 121 < 211) (.bool y_315)
                refine EndE.some_ rfl ?_
                intro v_1045 hF_1044; obtain rfl : .bool y_315 = v_1045 := Eq.symm hF_1044
                replace S := S.put (by decide : 122 < 211) (.bool y_315)
                refine EndE.some_ rfl ?_
                intro v_1046 _
                replace S := S.put (by decide : 123 < 211) (v_1046)
                refine EndE.some_ rfl ?_
                intro v_1047 _
                replace S := S.put (by decide : 124 < 211) (v_1047)
                refine EndE.some_ rfl ?_
                intro v_1048 _
                replace S := S.put (by decide : 125 < 211) (v_1048)
                refine EndE.some_ rfl ?_
                intro v_1049 _
                replace S := S.put (by decide : 126 < 211) (v_1049)
                refine EndE.some_ rfl ?_
                intro v_1050 _
                replace S := S.put (by decide : 127 < 211) (v_1050)
                refine EndE.some_ rfl ?_
                intro v_1052 hF_1051; obtain rfl : .bool q_321 = v_1052 := Eq.symm hF_1051
                replace S := S.put (by decide : 128 < 211) (.bool q_321)
                refine EndE.some_ rfl ?_
                intro v_1054 hF_1053; obtain rfl : .bool q_321 = v_1054 := Eq.symm hF_1053
                replace S := S.put (by decide : 129 < 211) (.bool q_321)
                refine EndE.some_ rfl ?_
                intro v_1055 _
                replace S := S.put (by decide : 130 < 211) (v_1055)
                refine EndE.some_ rfl ?_
                intro v_1056 _
                replace S := S.put (by decide : 131 < 211) (v_1056)
                refine EndE.some_ rfl ?_
                intro v_1057 _
                replace S := S.put (by decide : 132 < 211) (v_1057)
                refine EndE.some_ rfl ?_
                intro v_1058 _
                replace S := S.put (by decide : 133 < 211) (v_1058)
                refine EndE.some_ rfl ?_
                intro v_1059 _
                replace S := S.put (by decide : 134 < 211) (v_1059)
                refine EndE.some_ rfl ?_
                intro v_1060 _
                replace S := S.put (by decide : 135 < 211) (v_1060)
                refine EndE.some_ rfl ?_
                intro v_1061 _
                replace S := S.put (by decide : 136 < 211) (v_1061)
                refine EndE.some_ rfl ?_
                intro v_1062 _
                replace S := S.put (by decide : 137 < 211) (v_1062)
                refine EndE.some_ rfl ?_
                intro v_1063 _
                replace S := S.put (by decide : 138 < 211) (v_1063)
                refine EndE.some_ rfl ?_
                intro v_1064 _
                replace S := S.put (by decide : 139 < 211) (v_1064)
                refine EndE.some_ rfl ?_
                intro v_1065 _
                replace S := S.put (by decide : 140 < 211) (v_1065)
                refine EndE.some_ rfl ?_
                intro v_1067 hF_1066; obtain rfl : .bool q_329 = v_1067 := Eq.symm hF_1066
                replace S := S.put (by decide : 141 < 211) (.bool q_329)
                refine EndE.some_ rfl ?_
                intro v_1069 hF_1068; obtain rfl : .bool q_329 = v_1069 := Eq.symm hF_1068
                replace S := S.put (by decide : 142 < 211) (.bool q_329)
                refine EndE.some_ rfl ?_
                intro v_1070 _
                replace S := S.put (by decide : 143 < 211) (v_1070)
                refine EndE.some_ rfl ?_
                intro v_1071 _
                replace S := S.put (by decide : 144 < 211) (v_1071)
                refine EndE.some_ rfl ?_
                intro v_1072 _
                replace S := S.put (by decide : 145 < 211) (v_1072)
                refine EndE.some_ rfl ?_
                intro v_1073 _
                replace S := S.put (by decide : 146 < 211) (v_1073)
                refine EndE.some_ rfl ?_
                intro v_1074 _
                replace S := S.put (by decide : 147 < 211) (v_1074)
                refine EndE.some_ rfl ?_
                intro v_1075 _
                replace S := S.put (by decide : 148 < 211) (v_1075)
                refine EndE.some_ rfl ?_
                intro v_1076 _
                replace S := S.put (by decide : 149 < 211) (v_1076)
                refine EndE.some_ rfl ?_
                intro v_1077 _
                replace S := S.put (by decide : 150 < 211) (v_1077)
                refine EndE.some_ rfl ?_
                intro v_1078 _
                replace S := S.put (by decide : 151 < 211) (v_1078)
                refine EndE.some_ rfl ?_
                intro v_1079 _
                replace S := S.put (by decide : 152 < 211) (v_1079)
                refine EndE.some_ rfl ?_
                intro v_1080 _
                replace S := S.put (by decide : 153 < 211) (v_1080)
                refine EndE.some_ rfl ?_
                intro v_1081 _
                replace S := S.put (by decide : 154 < 211) (v_1081)
                refine EndE.some_ rfl ?_
                intro v_1082 _
                replace S := S.put (by decide : 155 < 211) (v_1082)
                refine EndE.some_ rfl ?_
                intro v_1083 _
                replace S := S.put (by decide : 156 < 211) (v_1083)
                refine EndE.some_ rfl ?_
                intro v_1084 _
                replace S := S.put (by decide : 157 < 211) (v_1084)
                refine EndE.some_ rfl ?_
                intro v_1085 _
                replace S := S.put (by decide : 158 < 211) (v_1085)
                refine EndE.some_ rfl ?_
                intro v_1086 _
                replace S := S.put (by decide : 159 < 211) (v_1086)
                refine EndE.some_ rfl ?_
                intro v_1087 _
                replace S := S.put (by decide : 160 < 211) (v_1087)
                refine EndE.some_ rfl ?_
                intro v_1088 _
                replace S := S.put (by decide : 161 < 211) (v_1088)
                refine EndE.some_ rfl ?_
                intro v_1089 _
                replace S := S.put (by decide : 162 < 211) (v_1089)
                refine EndE.some_ rfl ?_
                intro v_1090 _
                replace S := S.put (by decide : 163 < 211) (v_1090)
                refine EndE.some_ rfl ?_
                intro v_1091 _
                replace S := S.put (by decide : 164 < 211) (v_1091)
                refine EndE.some_ rfl ?_
                intro v_1092 _
                replace S := S.put (by decide : 165 < 211) (v_1092)
                refine EndE.some_ rfl ?_
                intro v_1093 _
                replace S := S.put (by decide : 166 < 211) (v_1093)
                refine EndE.some_ rfl ?_
                intro v_1095 hF_1094; obtain rfl : .bool q_348 = v_1095 := Eq.symm hF_1094
                replace S := S.put (by decide : 167 < 211) (.bool q_348)
                refine endE_nil S ?_; clear S; intro a S
                replace R0 := R0.step hb_1032
                replace R_33 := R_33.step hb_1032
                replace R_34 := R_34.step hb_1032
                replace R_48 := R_48.step hb_1032
                replace O_303 := O_303.step hb_1032
                replace W := W.step hb_1032
                refine then_n ?_
                replace S := S.sub (l' := [(167, .bool q_348), (14, .int .i64 c_305), (13, .int .i64 t_125), (12, .int .i64 c_101), (0, v0), (4, .int .i64 c_7), (5, v_30), (6, v_31), (8, v_47), (9, (.slice (some ⟨b_52, 0, .none⟩) m_51.1 m_51.2))]) (by exact ⟨rfl, rfl, rfl, rfl, rfl, rfl, rfl, rfl, rfl, rfl, trivial⟩)
                refine wp_cond_split (S.eval (show ev _ _ = some (.bool q_348) from rfl)) ?_ ?_
                ·intro hc
                 rw [if_pos hc] at hl_312
                 refine wp_seq ?_
                 refine wp_region_lit ?_
                 refine wl_pureK (l' := [(2, .bool false)]) S tys tys_ok 1 [2] (by kernel_rfl) ?_
                 clear S; intro a S
                 refine wpList_nil ?_
                 refine then_n ?_
                 refine wp_ret ?_
                 refine blk_r ?_
                 refine then_r ?_
                 refine then_r ?_
                 refine blk_r ?_
                 refine then_r ?_
                 refine blk_r ?_
                 refine then_r ?_
                 refine then_r ?_
                 refine blk_r ?_
                 refine then_r ?_
                 refine then_r ?_
                 refine blk_r ?_
                 refine then_r ?_
                 refine then_r ?_
                 refine blk_r ?_
                 refine then_r ?_
                 refine then_r ?_
                 obtain rfl := Option.some.inj hl_312
                 have hq_ := lr_inr2 hl_116; subst hq_
                 have hq_ := lr_inr2 hl_20; subst hq_
                 obtain rfl := lr_inr h
                 exact b_ret1 S rfl rfl ⟨_, rfl, RepV.mkBool, W.below⟩
                ·intro hc
                 rw [if_neg (Bool.eq_false_iff.1 hc)] at hl_312
                 refine wp_skip ?_
                 refine blk_n ?_
                 refine then_n ?_
                 replace S := S.sub (l' := [(14, .int .i64 c_305), (13, .int .i64 t_125), (12, .int .i64 c_101), (0, v0), (4, .int .i64 c_7), (5, v_30), (6, v_31), (8, v_47), (9, (.slice (some ⟨b_52, 0, .none⟩) m_51.1 m_51.2))]) (by exact ⟨rfl, rfl, rfl, rfl, rfl, rfl, rfl, rfl, rfl, trivial⟩)
                 refine wp_region_lit ?_
                 refine wl_pure (l' := [(116, .int .i64 c_305), (14, .int .i64 c_305), (13, .int .i64 t_125), (12, .int .i64 c_101), (0, v0), (4, .int .i64 c_7), (5, v_30), (6, v_31), (8, v_47), (9, (.slice (some ⟨b_52, 0, .none⟩) m_51.1 m_51.2))]) S tys tys_ok 1 (by kernel_rfl) ?_
                 clear S; intro a S
                 obtain ⟨x_1096, ex_1096, hl_312⟩ := bindS hl_312
                 refine w_go S rfl (op_arith S .i64 (c_305 + 1) rfl (.inl rfl) rfl rfl rfl rfl ex_1096 ?_)
                 clear S; intro a S
                 refine wl_pure (l' := [(14, .int .i64 x_1096), (117, .int .i64 x_1096), (116, .int .i64 c_305), (14, .int .i64 c_305), (13, .int .i64 t_125), (12, .int .i64 c_101), (0, v0), (4, .int .i64 c_7), (5, v_30), (6, v_31), (8, v_47), (9, (.slice (some ⟨b_52, 0, .none⟩) m_51.1 m_51.2))]) S tys tys_ok 1 (by kernel_rfl) ?_
                 clear S; intro a S
                 refine wpList_nil ?_
                 refine then_n ?_
                 exact ⟨x_1096, ⟨S.sub (by exact ⟨rfl, rfl, rfl, rfl, rfl, rfl, rfl, rfl, rfl, trivial⟩), W, (ckI_some ex_1096).2.1, R0, R_33, R_34, R_48, O_303, hl_312⟩⟩
               ·intro hc
                rw [if_neg (Bool.eq_false_iff.1 hc)] at hl_312
                refine wp_exit ?_
                refine then_x ?_
                refine then_x ?_
                refine blk_hit ?_
                refine then_n ?_
                obtain rfl := Option.some.inj hl_312
                exact ⟨_, rfl, ⟨S.sub (by exact ⟨rfl, rfl, rfl, rfl, rfl, rfl, rfl, trivial⟩), W, R0, R_33, R_34, R_48, O_303⟩⟩
            clear S W; rintro a w_1097 ⟨s_310, rfl, S, W, R0, R_33, R_34, R_48, O_303⟩
            replace hl_116 := lr_inl hl_116; try dsimp only at hl_116
            refine blk_n ?_
            refine then_n ?_
            refine wp_region_lit ?_
            refine wl_pure (l' := [(80, .int .i64 c_101), (0, v0), (4, .int .i64 c_7), (5, v_30), (6, v_31), (8, v_47), (9, (.slice (some ⟨b_52, 0, .none⟩) m_51.1 m_51.2)), (12, .int .i64 c_101)]) S tys tys_ok 1 (by kernel_rfl) ?_
            clear S; intro a S
            obtain ⟨x_1098, ex_1098, hl_116⟩ := bindS hl_116
            refine w_go S rfl (op_arith S .i64 (c_101 + 1) rfl (.inl rfl) rfl rfl rfl rfl ex_1098 ?_)
            clear S; intro a S
            refine wl_pure (l' := [(12, .int .i64 x_1098), (81, .int .i64 x_1098), (80, .int .i64 c_101), (0, v0), (4, .int .i64 c_7), (5, v_30), (6, v_31), (8, v_47), (9, (.slice (some ⟨b_52, 0, .none⟩) m_51.1 m_51.2)), (12, .int .i64 c_101)]) S tys tys_ok 1 (by kernel_rfl) ?_
            clear S; intro a S
            refine wpList_nil ?_
            refine then_n ?_
            exact ⟨x_1098, (c_103.set t_125.toNat (!y_291.2)), ⟨S.sub (by exact ⟨rfl, rfl, rfl, rfl, rfl, rfl, rfl, trivial⟩), W, (ckI_some ex_1098).2.1, R0, R_33, R_34, R_48, O_303, hl_116⟩⟩
          ·intro hc
           rw [if_neg (Bool.eq_false_iff.1 hc)] at hl_116
           refine wp_exit ?_
           refine then_x ?_
           refine then_x ?_
           refine blk_hit ?_
           refine then_n ?_
           obtain rfl := Option.some.inj hl_116
           exact ⟨_, rfl, ⟨S.sub (by exact ⟨rfl, rfl, rfl, rfl, rfl, trivial⟩), W, R0, R_33, R_48, O_105⟩⟩
       clear S W; rintro a w_1099 ⟨s_112, rfl, S, W, R0, R_33, R_48, O_114⟩
       replace hl_20 := lr_inl hl_20; try dsimp only at hl_20
       refine then_n ?_
       refine wp_seq ?_
       refine wp_region_lit ?_
       refine wl_pure (l' := [(3, v_30), (168, v_30), (0, v0), (4, .int .i64 c_7), (5, v_30), (8, v_47), (9, (.slice (some ⟨b_52, 0, .none⟩) m_51.1 m_51.2))]) S tys tys_ok 2 (by kernel_rfl) ?_
       clear S; intro a S
       refine wpList_nil ?_
       refine then_n ?_
       replace S := S.sub (l' := [(3, v_30), (0, v0), (4, .int .i64 c_7), (8, v_47), (9, (.slice (some ⟨b_52, 0, .none⟩) m_51.1 m_51.2))]) (by exact ⟨rfl, rfl, rfl, rfl, rfl, trivial⟩)
       refine wp_seq ?_
       refine wp_region_lit ?_
       refine wl_pure (l' := [(15, .int .i64 0), (3, v_30), (0, v0), (4, .int .i64 c_7), (8, v_47), (9, (.slice (some ⟨b_52, 0, .none⟩) m_51.1 m_51.2))]) S tys tys_ok 1 (by kernel_rfl) ?_
       clear S; intro a S
       refine wpList_nil ?_
       refine then_n ?_
       obtain ⟨y_1104, ey_1104, hl_20⟩ := bindS hl_20
       refine wp_cut_ (fun a_ w_ => ∃ s_1105 : Unit, y_1104 = .inl s_1105 ∧ (St 211 a_ [(0, v0), (3, v_30), (4, .int .i64 c_7)] ∧ Wd w w_ [some b_52] ∧ RepV (.sl gt1) w_ (Kx K w.heap.size [some b_52]) v0 x0 ∧ RepV (.sl gt2) w_ (Kx K w.heap.size [some b_52]) v_30 t_29.1)) ?_ ?_
       ·refine wp_block ?_
        refine wp_loop_n (fun m_ a_ w_ => ∃ (c_1100 : Int) , St 211 a_ [(15, .int .i64 c_1100), (3, v_30), (0, v0), (4, .int .i64 c_7), (8, v_47), (9, (.slice (some ⟨b_52, 0, .none⟩) m_51.1 m_51.2))] ∧ Wd w w_ [some b_52] ∧ InR .i64 c_1100 ∧ RepV (.sl gt2) w_ (Kx K w.heap.size [some b_52]) v_30 t_29.1 ∧ RepV (.sl gt1) w_ (Kx K w.heap.size [some b_52]) v0 x0 ∧ RepV (.sl gt2) w_ (Kx K w.heap.size [some b_52]) v_47 j_46 ∧ Ow .bool 4 w_ w.heap.size (Kx K w.heap.size [some b_52]) (.slice (some ⟨b_52, 0, .none⟩) m_51.1 m_51.2) s_112 (some m_51.2) ∧ p3_l5 n t_29 j_46 s_112 m_ c_1100 = some y_1104) n ?_ ?_
        ·skip
         exact ⟨0, ⟨S.sub (by exact ⟨rfl, rfl, rfl, rfl, rfl, rfl, trivial⟩), W, (by decide), R_33, R0, R_48, O_114, ey_1104⟩⟩
        ·clear S W; rintro m_1106 a w_1108 ⟨c_1100, S, W, G_1101, R_33, R0, R_48, O_114, hl_1107⟩
         cases m_1106 with
         | zero => exact absurd hl_1107 (by simp [p3_l5])
         | succ m_1106 =>
          refine ⟨m_1106, rfl, ?_⟩
          rw [p3_l5] at hl_1107
          refine wp_seq ?_
          refine wp_seq ?_
          refine wp_region_lit ?_
          refine wl_pure (l' := [(170, v_30), (169, .int .i64 c_1100), (15, .int .i64 c_1100), (3, v_30), (0, v0), (4, .int .i64 c_7), (8, v_47), (9, (.slice (some ⟨b_52, 0, .none⟩) m_51.1 m_51.2))]) S tys tys_ok 2 (by kernel_rfl) ?_
          clear S; intro a S
          refine w_go S rfl (op_len (K := _) S rfl ty25 rfl rfl rfl R_33 ?_)
          clear S; intro a G_1109 S
          refine wl_pureK (l' := [(172, .bool (decide (c_1100 < (lenI t_29.1)))), (15, .int .i64 c_1100), (3, v_30), (0, v0), (4, .int .i64 c_7), (8, v_47), (9, (.slice (some ⟨b_52, 0, .none⟩) m_51.1 m_51.2))]) S tys tys_ok 1 [172, 15, 3, 0, 4, 8, 9] (by kernel_rfl) ?_
          clear S; intro a S
          refine wpList_nil ?_
          refine then_n ?_
          refine wp_cond_split (S.eval (show ev _ _ = some (.bool (decide (c_1100 < (lenI t_29.1)))) from rfl)) ?_ ?_
          ·intro hc
           rw [if_pos hc] at hl_1107
           refine wp_skip ?_
           refine then_n ?_
           replace S := S.sub (l' := [(15, .int .i64 c_1100), (3, v_30), (0, v0), (4, .int .i64 c_7), (8, v_47), (9, (.slice (some ⟨b_52, 0, .none⟩) m_51.1 m_51.2))]) (by exact ⟨rfl, rfl, rfl, rfl, rfl, rfl, trivial⟩)
           refine wp_seq ?_
           refine wp_block ?_
           refine wp_seq ?_
           refine wp_region_lit ?_
           refine wl_pure (l' := [(177, .int .i64 c_1100), (176, v_30), (175, v_47), (15, .int .i64 c_1100), (3, v_30), (0, v0), (4, .int .i64 c_7), (8, v_47), (9, (.slice (some ⟨b_52, 0, .none⟩) m_51.1 m_51.2))]) S tys tys_ok 3 (by kernel_rfl) ?_
           clear S; intro a S
           obtain ⟨y_1110, ey_1110, hl_1107⟩ := bindS hl_1107
           refine w_go S rfl (op_indexAddr S rfl ty25 rfl rfl rfl R_33 rfl ey_1110 ?_)
           clear S; intro a p_1111 R_1112 H_1113 S
           refine wl_pureK (l' := [(179, .pointer (some (p_1111.add (coff gf2 0)))), (175, v_47), (15, .int .i64 c_1100), (3, v_30), (0, v0), (4, .int .i64 c_7), (8, v_47), (9, (.slice (some ⟨b_52, 0, .none⟩) m_51.1 m_51.2))]) S tys tys_ok 1 [179, 175, 15, 3, 0, 4, 8, 9] (by kernel_rfl) ?_
           clear S; intro a S
           refine w_go S rfl (op_load (t := (.sl (.int .u8))) (x := y_1110.1) S rfl ty35 rfl rfl rfl (RepAt.add 0 (RepAt.st (t := gf2) R_1112)) ?_)
           clear S; intro a v_1114 R_1115 S
           obtain ⟨t_1116, et_1116, hl_1107⟩ := bindS hl_1107
           refine w_go S rfl (op_call (vs := [v_47, v_1114]) S rfl cb10 rfl rfl rfl (c10 (Kx K w.heap.size [some b_52]) n w_1108 j_46 _ R_48 y_1110.1 _ R_1115 et_1116) ?_)
           rintro _ w_1120 ⟨v_1117, rfl, R_1118, hb_1119⟩; refine ⟨_, rfl, ?_⟩
           replace R_1118 := RepV.back R_1118 W
           clear S; intro a S
           replace R_33 := R_33.step hb_1119
           replace R0 := R0.step hb_1119
           replace R_48 := R_48.step hb_1119
           replace R_1115 := R_1115.step hb_1119
           replace O_114 := O_114.step hb_1119
           replace W := W.step hb_1119
           obtain ⟨rfl, GR_1118⟩ := RepV.int R_1118
           refine wl_pureK (l' := [(16, .int .i64 t_1116), (15, .int .i64 c_1100), (3, v_30), (0, v0), (4, .int .i64 c_7), (8, v_47), (9, (.slice (some ⟨b_52, 0, .none⟩) m_51.1 m_51.2))]) S tys tys_ok 1 [16, 15, 3, 0, 4, 8, 9] (by kernel_rfl) ?_
           clear S; intro a S
           refine wpList_nil ?_
           refine then_n ?_
           refine wp_seq ?_
           obtain ⟨q_1121, eq_1121, hl_1107⟩ := bindS hl_1107
           obtain ⟨y_1123, y_1129, HG_1122⟩ : ∃ (y_1123 : (Sl (Int)) × Bool × Bool × Bool × Int) (y_1129 : Bool) , ((decide (t_1116 < 0)) = false → (idx t_29.1.xs c_1100) = some y_1123 ∧ (idx s_112 t_1116) = some y_1129 ∧ (!(y_1123.2.2.2.1 == y_1129)) = q_1121) ∧ (¬ (decide (t_1116 < 0)) = false → true = q_1121) := by
            by_cases hc : (decide (t_1116 < 0)) = false
            ·rw [if_pos hc] at eq_1121
             obtain ⟨y_1123, ey_1123, eq_1121⟩ := bindS eq_1121
             obtain ⟨y_1129, ey_1129, eq_1121⟩ := bindS eq_1121
             exact ⟨y_1123, y_1129, ⟨fun _ => ⟨ey_1123, ey_1129, Option.some.inj eq_1121⟩, fun k_ => absurd hc k_⟩⟩
            ·rw [if_neg hc] at eq_1121
             exact ⟨default, default, ⟨fun k_ => absurd k_ hc, fun _ => Option.some.inj eq_1121⟩⟩
           obtain ⟨q_1135, eq_1135, hl_1107⟩ := bindS hl_1107
           obtain ⟨y_1137, q_1143, HG_1136⟩ : ∃ (y_1137 : (Sl (Int)) × Bool × Bool × Bool × Int) (q_1143 : Bool) , (q_1121 = false → (idx t_29.1.xs c_1100) = some y_1137 ∧ (if y_1137.2.1 = true then (idx t_29.1.xs c_1100).bind fun y_1145 => some y_1145.2.2.2.1 else some false) = some q_1143 ∧ q_1143 = q_1135) ∧ (¬ q_1121 = false → true = q_1135) := by
            by_cases hc : q_1121 = false
            ·rw [if_pos hc] at eq_1135
             obtain ⟨y_1137, ey_1137, eq_1135⟩ := bindS eq_1135
             obtain ⟨q_1143, eq_1143, eq_1135⟩ := bindS eq_1135
             exact ⟨y_1137, q_1143, ⟨fun _ => ⟨ey_1137, eq_1143, Option.some.inj eq_1135⟩, fun k_ => absurd hc k_⟩⟩
            ·rw [if_neg hc] at eq_1135
             exact ⟨default, default, ⟨fun k_ => absurd k_ hc, fun _ => Option.some.inj eq_1135⟩⟩
           obtain ⟨y_1145, HG_1144⟩ : ∃ (y_1145 : (Sl (Int)) × Bool × Bool × Bool × Int) , (q_1121 = false → (y_1137.2.1 = true → (idx t_29.1.xs c_1100) = some y_1145 ∧ y_1145.2.2.2.1 = q_1143) ∧ (¬ y_1137.2.1 = true → false = q_1143)) := by
            by_cases ho1 : q_1121 = false
            ·skip
             have eq_1143 := (HG_1136.1 ho1).2.1
             by_cases hc : y_1137.2.1 = true
             ·rw [if_pos hc] at eq_1143
              obtain ⟨y_1145, ey_1145, eq_1143⟩ := bindS eq_1143
              exact ⟨y_1145, fun _ => ⟨fun _ => ⟨ey_1145, Option.some.inj eq_1143⟩, fun k_ => absurd hc k_⟩⟩
             ·rw [if_neg hc] at eq_1143
              exact ⟨default, fun _ => ⟨fun k_ => absurd k_ hc, fun _ => Option.some.inj eq_1143⟩⟩
            ·exact ⟨default, fun k_ => absurd k_ ho1⟩
           have hR : Rel (Kx K w.heap.size [some b_52]) Bl := Bl.rel _
           refine wp_region_all hR [isI .i64 t_1116, eqv (.bool (decide (t_1116 < 0))), eqv (.bool (decide (t_1116 < 0))), cndF (decide (t_1116 < 0)) false (isRep (.sl gt2) (Kx K w.heap.size [some b_52]) t_29.1), cndF (decide (t_1116 < 0)) false (isI .i64 c_1100), cndF (decide (t_1116 < 0)) false (isEl gt2 (Kx K w.heap.size [some b_52]) y_1123), cndF (decide (t_1116 < 0)) false (isEl .bool (Kx K w.heap.size [some b_52]) y_1123.2.2.2.1), cndF (decide (t_1116 < 0)) false (eqv (.bool y_1123.2.2.2.1)), cndF (decide (t_1116 < 0)) false (eqv ((.slice (some ⟨b_52, 0, .none⟩) m_51.1 m_51.2))), cndF (decide (t_1116 < 0)) false (isI .i64 t_1116), cndF (decide (t_1116 < 0)) false (isEo .bool (Kx K w.heap.size [some b_52]) y_1129), cndF (decide (t_1116 < 0)) false (eqv (.bool y_1129)), cndF (decide (t_1116 < 0)) false (eqv (.bool (!(y_1123.2.2.2.1 == y_1129)))), eqv (.bool q_1121), eqv (.bool q_1121), cndF q_1121 false (isRep (.sl gt2) (Kx K w.heap.size [some b_52]) t_29.1), cndF q_1121 false (isI .i64 c_1100), cndF q_1121 false (isEl gt2 (Kx K w.heap.size [some b_52]) y_1137), cndF q_1121 false (isEl .bool (Kx K w.heap.size [some b_52]) y_1137.2.1), cndF q_1121 false (eqv (.bool y_1137.2.1)), cndF q_1121 false (eqv (.bool y_1137.2.1)), cndF q_1121 false (cndF y_1137.2.1 true (isRep (.sl gt2) (Kx K w.heap.size [some b_52]) t_29.1)), cndF q_1121 false (cndF y_1137.2.1 true (isI .i64 c_1100)), cndF q_1121 false (cndF y_1137.2.1 true (isEl gt2 (Kx K w.heap.size [some b_52]) y_1145)), cndF q_1121 false (cndF y_1137.2.1 true (isEl .bool (Kx K w.heap.size [some b_52]) y_1145.2.2.2.1)), cndF q_1121 false (cndF y_1137.2.1 true (eqv (.bool y_1145.2.2.2.1))), cndF q_1121 false (eqv (.bool q_1143)), eqv (.bool q_1135)] [[], [(0, 182)], [(1, 183)], [(2, 184)], [(2, 184)], [(3, 185), (4, 186), (2, 184)], [(5, 187), (2, 184)], [(6, 188), (2, 184)], [(2, 184)], [(2, 184)], [(8, 190), (9, 191), (2, 184)], [(10, 192), (2, 184)], [(7, 189), (11, 193), (2, 184)], [(2, 184), (12, 194)], [(13, 195)], [(14, 196)], [(14, 196)], [(15, 197), (16, 198), (14, 196)], [(17, 199), (14, 196)], [(18, 200), (14, 196)], [(19, 201), (14, 196)], [(20, 202)], [(20, 202)], [(21, 203), (22, 204), (20, 202)], [(23, 205), (20, 202)], [(24, 206), (20, 202)], [(20, 202), (25, 207), (14, 196)], [(14, 196), (26, 208)]] (by kernel_rfl) (by rw [S.size]; kernel_rfl) (by kernel_rfl) (by kernel_rfl) rfl ⟨stab_I, (stab_eqv _), (stab_eqv _), (stab_cnd (stab_rep hR)), (stab_cnd stab_I), (stab_cnd (stab_el hR)), (stab_cnd (stab_el hR)), (stab_cnd (stab_eqv _)), (stab_cnd (stab_eqv _)), (stab_cnd stab_I), (stab_cnd stab_eo), (stab_cnd (stab_eqv _)), (stab_cnd (stab_eqv _)), (stab_eqv _), (stab_eqv _), (stab_cnd (stab_rep hR)), (stab_cnd stab_I), (stab_cnd (stab_el hR)), (stab_cnd (stab_el hR)), (stab_cnd (stab_eqv _)), (stab_cnd (stab_eqv _)), (stab_cnd (stab_cnd (stab_rep hR))), (stab_cnd (stab_cnd stab_I)), (stab_cnd (stab_cnd (stab_el hR))), (stab_cnd (stab_cnd (stab_el hR))), (stab_cnd (stab_cnd (stab_eqv _))), (stab_cnd (stab_eqv _)), (stab_eqv _), trivial⟩ ?_ ?_
           ·
            refine RunAll.cons (isI .i64 t_1116) [] rfl rfl ?_ ?_
            ·intro W_ hW
             have S1 := S
             exact RPost.one (v := .int .i64 t_1116) S1 tys tys_ok rfl (by kernel_rfl) S.defers ⟨rfl, GR_1118⟩ (Below.refl _ _)
            refine RunAll.cons (eqv (.bool (decide (t_1116 < 0)))) [(isI .i64 t_1116, 182)] rfl rfl ?_ ?_
            ·intro W_ hW
             have S1 := S
             rintro _ ⟨rfl, hF_1151⟩
             replace S1 := S1.put (by decide : 182 < 211) (.int .i64 t_1116)
             exact RPost.one (v := .bool (decide (t_1116 < 0))) S1 tys tys_ok rfl (by kernel_rfl) S.defers rfl (Below.refl _ _)
            refine RunAll.cons (eqv (.bool (decide (t_1116 < 0)))) [(eqv (.bool (decide (t_1116 < 0))), 183)] rfl rfl ?_ ?_
            ·intro W_ hW
             have S1 := S
             intro v_1154 hF_1153; obtain rfl : .bool (decide (t_1116 < 0)) = v_1154 := Eq.symm hF_1153
             replace S1 := S1.put (by decide : 183 < 211) (.bool (decide (t_1116 < 0)))
             exact RPost.one (v := .bool (decide (t_1116 < 0))) S1 tys tys_ok rfl (by kernel_rfl) S.defers rfl (Below.refl _ _)
            refine RunAll.cons (cndF (decide (t_1116 < 0)) false (isRep (.sl gt2) (Kx K w.heap.size [some b_52]) t_29.1)) [(eqv (.bool (decide (t_1116 < 0))), 184)] rfl rfl ?_ ?_
            ·intro W_ hW
             by_cases hc0 : (decide (t_1116 < 0)) = false
             ·have hl0 : (decide (t_1116 < 0)) = false := hc0
              have S1 := S
              intro v_1156 hF_1155; obtain rfl : .bool (decide (t_1116 < 0)) = v_1156 := Eq.symm hF_1155
              replace S1 := S1.put (by decide : 184 < 211) (.bool (decide (t_1116 < 0)))
              refine fill_nil S1 ?_; clear S1; intro a_ S1
              replace R_33 := R_33.step hW
              rw [show (decide (t_1116 < 0)) = false from hl0] at S1
              exact RPost.one (v := v_30) S1 tys tys_ok rfl (by kernel_rfl) S.defers ⟨fun _ => R_33, fun k_ => absurd hc0 k_⟩ (Below.refl _ _)
             ·have hl0 : (decide (t_1116 < 0)) = true := (by simpa using hc0)
              have S1 := S
              intro v_1158 hF_1157; obtain rfl : .bool (decide (t_1116 < 0)) = v_1158 := Eq.symm hF_1157
              replace S1 := S1.put (by decide : 184 < 211) (.bool (decide (t_1116 < 0)))
              refine fill_nil S1 ?_; clear S1; intro a_ S1
              rw [show (decide (t_1116 < 0)) = true from hl0] at S1
              exact RPost.one (v := undef) S1 tys tys_ok rfl (by kernel_rfl) S.defers ⟨fun k_ => absurd k_ hc0, fun _ => rfl⟩ (Below.refl _ _)
            refine RunAll.cons (cndF (decide (t_1116 < 0)) false (isI .i64 c_1100)) [(eqv (.bool (decide (t_1116 < 0))), 184)] rfl rfl ?_ ?_
            ·intro W_ hW
             by_cases hc0 : (decide (t_1116 < 0)) = false
             ·have hl0 : (decide (t_1116 < 0)) = false := hc0
              have S1 := S
              intro v_1160 hF_1159; obtain rfl : .bool (decide (t_1116 < 0)) = v_1160 := Eq.symm hF_1159
              replace S1 := S1.put (by decide : 184 < 211) (.bool (decide (t_1116 < 0)))
              refine fill_nil S1 ?_; clear S1; intro a_ S1
              rw [show (decide (t_1116 < 0)) = false from hl0] at S1
              exact RPost.one (v := .int .i64 c_1100) S1 tys tys_ok rfl (by kernel_rfl) S.defers ⟨fun _ => ⟨rfl, G_1101⟩, fun k_ => absurd hc0 k_⟩ (Below.refl _ _)
             ·have hl0 : (decide (t_1116 < 0)) = true := (by simpa using hc0)
              have S1 := S
              intro v_1162 hF_1161; obtain rfl : .bool (decide (t_1116 < 0)) = v_1162 := Eq.symm hF_1161
              replace S1 := S1.put (by decide : 184 < 211) (.bool (decide (t_1116 < 0)))
              refine fill_nil S1 ?_; clear S1; intro a_ S1
              rw [show (decide (t_1116 < 0)) = true from hl0] at S1
              exact RPost.one (v := undef) S1 tys tys_ok rfl (by kernel_rfl) S.defers ⟨fun k_ => absurd k_ hc0, fun _ => rfl⟩ (Below.refl _ _)
            refine RunAll.cons (cndF (decide (t_1116 < 0)) false (isEl gt2 (Kx K w.heap.size [some b_52]) y_1123)) [(cndF (decide (t_1116 < 0)) false (isRep (.sl gt2) (Kx K w.heap.size [some b_52]) t_29.1), 185), (cndF (decide (t_1116 < 0)) false (isI .i64 c_1100), 186), (eqv (.bool (decide (t_1116 < 0))), 184)] rfl rfl ?_ ?_
            ·intro W_ hW
             by_cases hc0 : (decide (t_1116 < 0)) = false
             ·have hl0 : (decide (t_1116 < 0)) = false := hc0
              have S1 := S
              intro v_1163 hF_1164
              replace hF_1164 := cndF.pos hF_1164 hc0
              revert hF_1164
              revert v_1163
              intro v_1166 hF_1165; replace hF_1165 : RepV _ _ _ _ _ := hF_1165
              replace S1 := S1.put (by decide : 185 < 211) (v_1166)
              intro v_1167 hF_1168
              replace hF_1168 := cndF.pos hF_1168 hc0
              revert hF_1168
              revert v_1167
              rintro _ ⟨rfl, hF_1169⟩
              replace S1 := S1.put (by decide : 186 < 211) (.int .i64 c_1100)
              intro v_1172 hF_1171; obtain rfl : .bool (decide (t_1116 < 0)) = v_1172 := Eq.symm hF_1171
              replace S1 := S1.put (by decide : 184 < 211) (.bool (decide (t_1116 < 0)))
              refine fill_nil S1 ?_; clear S1; intro a_ S1
              replace W := W.step hW
              rw [show (decide (t_1116 < 0)) = false from hl0] at S1
              have S0 := S.defers; replace S := S1; clear S1
              obtain ⟨ey_1123, ey_1129, _⟩ := (HG_1122).1 hc0
              refine w_go S rfl (op_indexAddr S rfl ty25 rfl rfl rfl hF_1165 rfl ey_1123 ?_)
              clear S; intro a p_1173 R_1174 H_1175 S
              refine wpList_nil ?_
              exact RPost.mk_ S rfl S0 ⟨fun _ => ⟨_, rfl, R_1174, H_1175⟩, fun k_ => absurd hc0 k_⟩ (Below.refl _ _)
             ·have hl0 : (decide (t_1116 < 0)) = true := (by simpa using hc0)
              have S1 := S
              intro v_1176 hF_1177
              obtain rfl := cndF.neg hF_1177 hc0
              replace S1 := S1.put (by decide : 185 < 211) (undef)
              intro v_1178 hF_1179
              obtain rfl := cndF.neg hF_1179 hc0
              replace S1 := S1.put (by decide : 186 < 211) (undef)
              intro v_1181 hF_1180; obtain rfl : .bool (decide (t_1116 < 0)) = v_1181 := Eq.symm hF_1180
              replace S1 := S1.put (by decide : 184 < 211) (.bool (decide (t_1116 < 0)))
              refine fill_nil S1 ?_; clear S1; intro a_ S1
              rw [show (decide (t_1116 < 0)) = true from hl0] at S1
              exact RPost.one (v := undef) S1 tys tys_ok rfl (by kernel_rfl) S.defers ⟨fun k_ => absurd k_ hc0, fun _ => rfl⟩ (Below.refl _ _)
            refine RunAll.cons (cndF (decide (t_1116 < 0)) false (isEl .bool (Kx K w.heap.size [some b_52]) y_1123.2.2.2.1)) [(cndF (decide (t_1116 < 0)) false (isEl gt2 (Kx K w.heap.size [some b_52]) y_1123), 187), (eqv (.bool (decide (t_1116 < 0))), 184)] rfl rfl ?_ ?_
            ·intro W_ hW
             by_cases hc0 : (decide (t_1116 < 0)) = false
             ·have hl0 : (decide (t_1116 < 0)) = false := hc0
              have S1 := S
              intro v_1182 hF_1183
              replace hF_1183 := cndF.pos hF_1183 hc0
              revert hF_1183
              revert v_1182
              rintro _ ⟨p_1186, rfl, R_1187, H_1188⟩
              replace S1 := S1.put (by decide : 187 < 211) (.pointer (some p_1186))
              intro v_1190 hF_1189; obtain rfl : .bool (decide (t_1116 < 0)) = v_1190 := Eq.symm hF_1189
              replace S1 := S1.put (by decide : 184 < 211) (.bool (decide (t_1116 < 0)))
              refine fill_nil S1 ?_; clear S1; intro a_ S1
              rw [show (decide (t_1116 < 0)) = false from hl0] at S1
              exact RPost.one (v := .pointer (some (p_1186.add (coff gf2 3)))) S1 tys tys_ok rfl (by kernel_rfl) S.defers ⟨fun _ => ⟨_, rfl, (RepAt.add 3 (RepAt.st (t := gf2) R_1187)), (by simpa [Addr.add] using H_1188)⟩, fun k_ => absurd hc0 k_⟩ (Below.refl _ _)
             ·have hl0 : (decide (t_1116 < 0)) = true := (by simpa using hc0)
              have S1 := S
              intro v_1191 hF_1192
              obtain rfl := cndF.neg hF_1192 hc0
              replace S1 := S1.put (by decide : 187 < 211) (undef)
              intro v_1194 hF_1193; obtain rfl : .bool (decide (t_1116 < 0)) = v_1194 := Eq.symm hF_1193
              replace S1 := S1.put (by decide : 184 < 211) (.bool (decide (t_1116 < 0)))
              refine fill_nil S1 ?_; clear S1; intro a_ S1
              rw [show (decide (t_1116 < 0)) = true from hl0] at S1
              exact RPost.one (v := undef) S1 tys tys_ok rfl (by kernel_rfl) S.defers ⟨fun k_ => absurd k_ hc0, fun _ => rfl⟩ (Below.refl _ _)
            refine RunAll.cons (cndF (decide (t_1116 < 0)) false (eqv (.bool y_1123.2.2.2.1))) [(cndF (decide (t_1116 < 0)) false (isEl .bool (Kx K w.heap.size [some b_52]) y_1123.2.2.2.1), 188), (eqv (.bool (decide (t_1116 < 0))), 184)] rfl rfl ?_ ?_
            ·intro W_ hW
             by_cases hc0 : (decide (t_1116 < 0)) = false
             ·have hl0 : (decide (t_1116 < 0)) = false := hc0
              have S1 := S
              intro v_1195 hF_1196
              replace hF_1196 := cndF.pos hF_1196 hc0
              revert hF_1196
              revert v_1195
              rintro _ ⟨p_1199, rfl, R_1200, H_1201⟩
              replace S1 := S1.put (by decide : 188 < 211) (.pointer (some p_1199))
              intro v_1203 hF_1202; obtain rfl : .bool (decide (t_1116 < 0)) = v_1203 := Eq.symm hF_1202
              replace S1 := S1.put (by decide : 184 < 211) (.bool (decide (t_1116 < 0)))
              refine fill_nil S1 ?_; clear S1; intro a_ S1
              rw [show (decide (t_1116 < 0)) = false from hl0] at S1
              have S0 := S.defers; replace S := S1; clear S1
              obtain ⟨ey_1123, ey_1129, _⟩ := (HG_1122).1 hc0
              refine w_go S rfl (op_load (t := .bool) (x := y_1123.2.2.2.1) S rfl ty4 rfl rfl rfl R_1200 ?_)
              clear S; intro a v_1204 R_1205 S
              obtain rfl := RepV.bool R_1205
              refine wpList_nil ?_
              exact RPost.mk_ S rfl S0 ⟨fun _ => rfl, fun k_ => absurd hc0 k_⟩ (Below.refl _ _)
             ·have hl0 : (decide (t_1116 < 0)) = true := (by simpa using hc0)
              have S1 := S
              intro v_1206 hF_1207
              obtain rfl := cndF.neg hF_1207 hc0
              replace S1 := S1.put (by decide : 188 < 211) (undef)
              intro v_1209 hF_1208; obtain rfl : .bool (decide (t_1116 < 0)) = v_1209 := Eq.symm hF_1208
              replace S1 := S1.put (by decide : 184 < 211) (.bool (decide (t_1116 < 0)))
              refine fill_nil S1 ?_; clear S1; intro a_ S1
              rw [show (decide (t_1116 < 0)) = true from hl0] at S1
              exact RPost.one (v := undef) S1 tys tys_ok rfl (by kernel_rfl) S.defers ⟨fun k_ => absurd k_ hc0, fun _ => rfl⟩ (Below.refl _ _)
            refine RunAll.cons (cndF (decide (t_1116 < 0)) false (eqv ((.slice (some ⟨b_52, 0, .none⟩) m_51.1 m_51.2)))) [(eqv (.bool (decide (t_1116 < 0))), 184)] rfl rfl ?_ ?_
            ·intro W_ hW
             by_cases hc0 : (decide (t_1116 < 0)) = false
             ·have hl0 : (decide (t_1116 < 0)) = false := hc0
              have S1 := S
              intro v_1211 hF_1210; obtain rfl : .bool (decide (t_1116 < 0)) = v_1211 := Eq.symm hF_1210
              replace S1 := S1.put (by decide : 184 < 211) (.bool (decide (t_1116 < 0)))
              refine fill_nil S1 ?_; clear S1; intro a_ S1
              replace O_114 := O_114.step hW
              rw [show (decide (t_1116 < 0)) = false from hl0] at S1
              exact RPost.one (v := (.slice (some ⟨b_52, 0, .none⟩) m_51.1 m_51.2)) S1 tys tys_ok rfl (by kernel_rfl) S.defers ⟨fun _ => rfl, fun k_ => absurd hc0 k_⟩ (Below.refl _ _)
             ·have hl0 : (decide (t_1116 < 0)) = true := (by simpa using hc0)
              have S1 := S
              intro v_1213 hF_1212; obtain rfl : .bool (decide (t_1116 < 0)) = v_1213 := Eq.symm hF_1212
              replace S1 := S1.put (by decide : 184 < 211) (.bool (decide (t_1116 < 0)))
              refine fill_nil S1 ?_; clear S1; intro a_ S1
              rw [show (decide (t_1116 < 0)) = true from hl0] at S1
              exact RPost.one (v := undef) S1 tys tys_ok rfl (by kernel_rfl) S.defers ⟨fun k_ => absurd k_ hc0, fun _ => rfl⟩ (Below.refl _ _)
            refine RunAll.cons (cndF (decide (t_1116 < 0)) false (isI .i64 t_1116)) [(eqv (.bool (decide (t_1116 < 0))), 184)] rfl rfl ?_ ?_
            ·intro W_ hW
             by_cases hc0 : (decide (t_1116 < 0)) = false
             ·have hl0 : (decide (t_1116 < 0)) = false := hc0
              have S1 := S
              intro v_1215 hF_1214; obtain rfl : .bool (decide (t_1116 < 0)) = v_1215 := Eq.symm hF_1214
              replace S1 := S1.put (by decide : 184 < 211) (.bool (decide (t_1116 < 0)))
              refine fill_nil S1 ?_; clear S1; intro a_ S1
              rw [show (decide (t_1116 < 0)) = false from hl0] at S1
              exact RPost.one (v := .int .i64 t_1116) S1 tys tys_ok rfl (by kernel_rfl) S.defers ⟨fun _ => ⟨rfl, GR_1118⟩, fun k_ => absurd hc0 k_⟩ (Below.refl _ _)
             ·have hl0 : (decide (t_1116 < 0)) = true := (by simpa using hc0)
              have S1 := S
              intro v_1217 hF_1216; obtain rfl : .bool (decide (t_1116 < 0)) = v_1217 := Eq.symm hF_1216
              replace S1 := S1.put (by decide : 184 < 211) (.bool (decide (t_1116 < 0)))
              refine fill_nil S1 ?_; clear S1; intro a_ S1
              rw [show (decide (t_1116 < 0)) = true from hl0] at S1
              exact RPost.one (v := undef) S1 tys tys_ok rfl (by kernel_rfl) S.defers ⟨fun k_ => absurd k_ hc0, fun _ => rfl⟩ (Below.refl _ _)
            refine RunAll.cons (cndF (decide (t_1116 < 0)) false (isEo .bool (Kx K w.heap.size [some b_52]) y_1129)) [(cndF (decide (t_1116 < 0)) false (eqv ((.slice (some ⟨b_52, 0, .none⟩) m_51.1 m_51.2))), 190), (cndF (decide (t_1116 < 0)) false (isI .i64 t_1116), 191), (eqv (.bool (decide (t_1116 < 0))), 184)] rfl rfl ?_ ?_
            ·intro W_ hW
             by_cases hc0 : (decide (t_1116 < 0)) = false
             ·have hl0 : (decide (t_1116 < 0)) = false := hc0
              have S1 := S
              intro v_1218 hF_1219
              replace hF_1219 := cndF.pos hF_1219 hc0
              revert hF_1219
              revert v_1218
              intro v_1221 hF_1220; obtain rfl : (.slice (some ⟨b_52, 0, .none⟩) m_51.1 m_51.2) = v_1221 := Eq.symm hF_1220
              replace S1 := S1.put (by decide : 190 < 211) ((.slice (some ⟨b_52, 0, .none⟩) m_51.1 m_51.2))
              intro v_1222 hF_1223
              replace hF_1223 := cndF.pos hF_1223 hc0
              revert hF_1223
              revert v_1222
              rintro _ ⟨rfl, hF_1224⟩
              replace S1 := S1.put (by decide : 191 < 211) (.int .i64 t_1116)
              intro v_1227 hF_1226; obtain rfl : .bool (decide (t_1116 < 0)) = v_1227 := Eq.symm hF_1226
              replace S1 := S1.put (by decide : 184 < 211) (.bool (decide (t_1116 < 0)))
              refine fill_nil S1 ?_; clear S1; intro a_ S1
              replace O_114 := O_114.step hW
              replace W := W.step hW
              rw [show (decide (t_1116 < 0)) = false from hl0] at S1
              have S0 := S.defers; replace S := S1; clear S1
              obtain ⟨ey_1123, ey_1129, _⟩ := (HG_1122).1 hc0
              refine w_go S rfl (op_indexAddr_own S rfl ty32 rfl rfl rfl O_114 rfl ey_1129 ?_)
              clear S; intro a g_1228 H_1230 R_1229 S
              refine wpList_nil ?_
              exact RPost.mk_ S rfl S0 ⟨fun _ => ⟨_, rfl, R_1229, W.ownlt (o := some b_52) (List.mem_of_getElem? (i := 0) rfl) H_1230⟩, fun k_ => absurd hc0 k_⟩ (Below.refl _ _)
             ·have hl0 : (decide (t_1116 < 0)) = true := (by simpa using hc0)
              have S1 := S
              intro v_1231 hF_1232
              obtain rfl := cndF.neg hF_1232 hc0
              replace S1 := S1.put (by decide : 190 < 211) (undef)
              intro v_1233 hF_1234
              obtain rfl := cndF.neg hF_1234 hc0
              replace S1 := S1.put (by decide : 191 < 211) (undef)
              intro v_1236 hF_1235; obtain rfl : .bool (decide (t_1116 < 0)) = v_1236 := Eq.symm hF_1235
              replace S1 := S1.put (by decide : 184 < 211) (.bool (decide (t_1116 < 0)))
              refine fill_nil S1 ?_; clear S1; intro a_ S1
              rw [show (decide (t_1116 < 0)) = true from hl0] at S1
              exact RPost.one (v := undef) S1 tys tys_ok rfl (by kernel_rfl) S.defers ⟨fun k_ => absurd k_ hc0, fun _ => rfl⟩ (Below.refl _ _)
            refine RunAll.cons (cndF (decide (t_1116 < 0)) false (eqv (.bool y_1129))) [(cndF (decide (t_1116 < 0)) false (isEo .bool (Kx K w.heap.size [some b_52]) y_1129), 192), (eqv (.bool (decide (t_1116 < 0))), 184)] rfl rfl ?_ ?_
            ·intro W_ hW
             by_cases hc0 : (decide (t_1116 < 0)) = false
             ·have hl0 : (decide (t_1116 < 0)) = false := hc0
              have S1 := S
              intro v_1237 hF_1238
              replace hF_1238 := cndF.pos hF_1238 hc0
              revert hF_1238
              revert v_1237
              rintro _ ⟨p_1241, rfl, R_1242, H_1243⟩
              replace S1 := S1.put (by decide : 192 < 211) (.pointer (some p_1241))
              intro v_1245 hF_1244; obtain rfl : .bool (decide (t_1116 < 0)) = v_1245 := Eq.symm hF_1244
              replace S1 := S1.put (by decide : 184 < 211) (.bool (decide (t_1116 < 0)))
              refine fill_nil S1 ?_; clear S1; intro a_ S1
              rw [show (decide (t_1116 < 0)) = false from hl0] at S1
              have S0 := S.defers; replace S := S1; clear S1
              obtain ⟨ey_1123, ey_1129, _⟩ := (HG_1122).1 hc0
              refine w_go S rfl (op_load (t := .bool) (x := y_1129) S rfl ty4 rfl rfl rfl R_1242 ?_)
              clear S; intro a v_1246 R_1247 S
              obtain rfl := RepV.bool R_1247
              refine wpList_nil ?_
              exact RPost.mk_ S rfl S0 ⟨fun _ => rfl, fun k_ => absurd hc0 k_⟩ (Below.refl _ _)
             ·have hl0 : (decide (t_1116 < 0)) = true := (by simpa using hc0)
              have S1 := S
              intro v_1248 hF_1249
              obtain rfl := cndF.neg hF_1249 hc0
              replace S1 := S1.put (by decide : 192 < 211) (undef)
              intro v_1251 hF_1250; obtain rfl : .bool (decide (t_1116 < 0)) = v_1251 := Eq.symm hF_1250
              replace S1 := S1.put (by decide : 184 < 211) (.bool (decide (t_1116 < 0)))
              refine fill_nil S1 ?_; clear S1; intro a_ S1
              rw [show (decide (t_1116 < 0)) = true from hl0] at S1
              exact RPost.one (v := undef) S1 tys tys_ok rfl (by kernel_rfl) S.defers ⟨fun k_ => absurd k_ hc0, fun _ => rfl⟩ (Below.refl _ _)
            refine RunAll.cons (cndF (decide (t_1116 < 0)) false (eqv (.bool (!(y_1123.2.2.2.1 == y_1129))))) [(cndF (decide (t_1116 < 0)) false (eqv (.bool y_1123.2.2.2.1)), 189), (cndF (decide (t_1116 < 0)) false (eqv (.bool y_1129)), 193), (eqv (.bool (decide (t_1116 < 0))), 184)] rfl rfl ?_ ?_
            ·intro W_ hW
             by_cases hc0 : (decide (t_1116 < 0)) = false
             ·have hl0 : (decide (t_1116 < 0)) = false := hc0
              have S1 := S
              intro v_1252 hF_1253
              replace hF_1253 := cndF.pos hF_1253 hc0
              revert hF_1253
              revert v_1252
              intro v_1255 hF_1254; obtain rfl : .bool y_1123.2.2.2.1 = v_1255 := Eq.symm hF_1254
              replace S1 := S1.put (by decide : 189 < 211) (.bool y_1123.2.2.2.1)
              intro v_1256 hF_1257
              replace hF_1257 := cndF.pos hF_1257 hc0
              revert hF_1257
              revert v_1256
              intro v_1259 hF_1258; obtain rfl : .bool y_1129 = v_1259 := Eq.symm hF_1258
              replace S1 := S1.put (by decide : 193 < 211) (.bool y_1129)
              intro v_1261 hF_1260; obtain rfl : .bool (decide (t_1116 < 0)) = v_1261 := Eq.symm hF_1260
              replace S1 := S1.put (by decide : 184 < 211) (.bool (decide (t_1116 < 0)))
              refine fill_nil S1 ?_; clear S1; intro a_ S1
              rw [show (decide (t_1116 < 0)) = false from hl0] at S1
              exact RPost.one (v := .bool (!(y_1123.2.2.2.1 == y_1129))) S1 tys tys_ok rfl (by kernel_rfl) S.defers ⟨fun _ => rfl, fun k_ => absurd hc0 k_⟩ (Below.refl _ _)
             ·have hl0 : (decide (t_1116 < 0)) = true := (by simpa using hc0)
              have S1 := S
              intro v_1262 hF_1263
              obtain rfl := cndF.neg hF_1263 hc0
              replace S1 := S1.put (by decide : 189 < 211) (undef)
              intro v_1264 hF_1265
              obtain rfl := cndF.neg hF_1265 hc0
              replace S1 := S1.put (by decide : 193 < 211) (undef)
              intro v_1267 hF_1266; obtain rfl : .bool (decide (t_1116 < 0)) = v_1267 := Eq.symm hF_1266
              replace S1 := S1.put (by decide : 184 < 211) (.bool (decide (t_1116 < 0)))
              refine fill_nil S1 ?_; clear S1; intro a_ S1
              rw [show (decide (t_1116 < 0)) = true from hl0] at S1
              exact RPost.one (v := undef) S1 tys tys_ok rfl (by kernel_rfl) S.defers ⟨fun k_ => absurd k_ hc0, fun _ => rfl⟩ (Below.refl _ _)
            refine RunAll.cons (eqv (.bool q_1121)) [(eqv (.bool (decide (t_1116 < 0))), 184), (cndF (decide (t_1116 < 0)) false (eqv (.bool (!(y_1123.2.2.2.1 == y_1129)))), 194)] rfl rfl ?_ ?_
            ·intro W_ hW
             by_cases hc0 : (decide (t_1116 < 0)) = false
             ·have hl0 : (decide (t_1116 < 0)) = false := hc0
              have S1 := S
              intro v_1269 hF_1268; obtain rfl : .bool (decide (t_1116 < 0)) = v_1269 := Eq.symm hF_1268
              replace S1 := S1.put (by decide : 184 < 211) (.bool (decide (t_1116 < 0)))
              intro v_1270 hF_1271
              replace hF_1271 := cndF.pos hF_1271 hc0
              revert hF_1271
              revert v_1270
              intro v_1273 hF_1272; obtain rfl : .bool (!(y_1123.2.2.2.1 == y_1129)) = v_1273 := Eq.symm hF_1272
              replace S1 := S1.put (by decide : 194 < 211) (.bool (!(y_1123.2.2.2.1 == y_1129)))
              refine fill_nil S1 ?_; clear S1; intro a_ S1
              rw [show (decide (t_1116 < 0)) = false from hl0] at S1
              exact RPost.one (v := .bool (!(y_1123.2.2.2.1 == y_1129))) S1 tys tys_ok rfl (by kernel_rfl) S.defers (congrArg Value.bool ((HG_1122).1 hc0).2.2) (Below.refl _ _)
             ·have hl0 : (decide (t_1116 < 0)) = true := (by simpa using hc0)
              have S1 := S
              intro v_1275 hF_1274; obtain rfl : .bool (decide (t_1116 < 0)) = v_1275 := Eq.symm hF_1274
              replace S1 := S1.put (by decide : 184 < 211) (.bool (decide (t_1116 < 0)))
              intro v_1276 hF_1277
              obtain rfl := cndF.neg hF_1277 hc0
              replace S1 := S1.put (by decide : 194 < 211) (undef)
              refine fill_nil S1 ?_; clear S1; intro a_ S1
              rw [show (decide (t_1116 < 0)) = true from hl0] at S1
              exact RPost.one (v := .bool true) S1 tys tys_ok rfl (by kernel_rfl) S.defers (congrArg Value.bool ((HG_1122).2 hc0)) (Below.refl _ _)
            refine RunAll.cons (eqv (.bool q_1121)) [(eqv (.bool q_1121), 195)] rfl rfl ?_ ?_
            ·intro W_ hW
             have S1 := S
             intro v_1279 hF_1278; obtain rfl : .bool q_1121 = v_1279 := Eq.symm hF_1278
             replace S1 := S1.put (by decide : 195 < 211) (.bool q_1121)
             exact RPost.one (v := .bool q_1121) S1 tys tys_ok rfl (by kernel_rfl) S.defers rfl (Below.refl _ _)
            refine RunAll.cons (cndF q_1121 false (isRep (.sl gt2) (Kx K w.heap.size [some b_52]) t_29.1)) [(eqv (.bool q_1121), 196)] rfl rfl ?_ ?_
            ·intro W_ hW
             by_cases hc1 : q_1121 = false
             ·have hl1 : q_1121 = false := hc1
              have S1 := S
              intro v_1281 hF_1280; obtain rfl : .bool q_1121 = v_1281 := Eq.symm hF_1280
              replace S1 := S1.put (by decide : 196 < 211) (.bool q_1121)
              refine fill_nil S1 ?_; clear S1; intro a_ S1
              replace R_33 := R_33.step hW
              rw [show q_1121 = false from hl1] at S1
              exact RPost.one (v := v_30) S1 tys tys_ok rfl (by kernel_rfl) S.defers ⟨fun _ => R_33, fun k_ => absurd hc1 k_⟩ (Below.refl _ _)
             ·have hl1 : q_1121 = true := (by simpa using hc1)
              have S1 := S
              intro v_1283 hF_1282; obtain rfl : .bool q_1121 = v_1283 := Eq.symm hF_1282
              replace S1 := S1.put (by decide : 196 < 211) (.bool q_1121)
              refine fill_nil S1 ?_; clear S1; intro a_ S1
              rw [show q_1121 = true from hl1] at S1
              exact RPost.one (v := undef) S1 tys tys_ok rfl (by kernel_rfl) S.defers ⟨fun k_ => absurd k_ hc1, fun _ => rfl⟩ (Below.refl _ _)
            refine RunAll.cons (cndF q_1121 false (isI .i64 c_1100)) [(eqv (.bool q_1121), 196)] rfl rfl ?_ ?_
            ·intro W_ hW
             by_cases hc1 : q_1121 = false
             ·have hl1 : q_1121 = false := hc1
              have S1 := S
              intro v_1285 hF_1284; obtain rfl : .bool q_1121 = v_1285 := Eq.symm hF_1284
              replace S1 := S1.put (by decide : 196 < 211) (.bool q_1121)
              refine fill_nil S1 ?_; clear S1; intro a_ S1
              rw [show q_1121 = false from hl1] at S1
              exact RPost.one (v := .int .i64 c_1100) S1 tys tys_ok rfl (by kernel_rfl) S.defers ⟨fun _ => ⟨rfl, G_1101⟩, fun k_ => absurd hc1 k_⟩ (Below.refl _ _)
             ·have hl1 : q_1121 = true := (by simpa using hc1)
              have S1 := S
              intro v_1287 hF_1286; obtain rfl : .bool q_1121 = v_1287 := Eq.symm hF_1286
              replace S1 := S1.put (by decide : 196 < 211) (.bool q_1121)
              refine fill_nil S1 ?_; clear S1; intro a_ S1
              rw [show q_1121 = true from hl1] at S1
              exact RPost.one (v := undef) S1 tys tys_ok rfl (by kernel_rfl) S.defers ⟨fun k_ => absurd k_ hc1, fun _ => rfl⟩ (Below.refl _ _)
            refine RunAll.cons (cndF q_1121 false (isEl gt2 (Kx K w.heap.size [some b_52]) y_1137)) [(cndF q_1121 false (isRep (.sl gt2) (Kx K w.heap.size [some b_52]) t_29.1), 197), (cndF q_1121 false (isI .i64 c_1100), 198), (eqv (.bool q_1121), 196)] rfl rfl ?_ ?_
            ·intro W_ hW
             by_cases hc1 : q_1121 = false
             ·have hl1 : q_1121 = false := hc1
              have S1 := S
              intro v_1288 hF_1289
              replace hF_1289 := cndF.pos hF_1289 hc1
              revert hF_1289
              revert v_1288
              intro v_1291 hF_1290; replace hF_1290 : RepV _ _ _ _ _ := hF_1290
              replace S1 := S1.put (by decide : 197 < 211) (v_1291)
              intro v_1292 hF_1293
              replace hF_1293 := cndF.pos hF_1293 hc1
              revert hF_1293
              revert v_1292
              rintro _ ⟨rfl, hF_1294⟩
              replace S1 := S1.put (by decide : 198 < 211) (.int .i64 c_1100)
              intro v_1297 hF_1296; obtain rfl : .bool q_1121 = v_1297 := Eq.symm hF_1296
              replace S1 := S1.put (by decide : 196 < 211) (.bool q_1121)
              refine fill_nil S1 ?_; clear S1; intro a_ S1
              replace W := W.step hW
              rw [show q_1121 = false from hl1] at S1
              have S0 := S.defers; replace S := S1; clear S1
              obtain ⟨ey_1137, eq_1143, _⟩ := (HG_1136).1 hc1
              refine w_go S rfl (op_indexAddr S rfl ty25 rfl rfl rfl hF_1290 rfl ey_1137 ?_)
              clear S; intro a p_1298 R_1299 H_1300 S
              refine wpList_nil ?_
              exact RPost.mk_ S rfl S0 ⟨fun _ => ⟨_, rfl, R_1299, H_1300⟩, fun k_ => absurd hc1 k_⟩ (Below.refl _ _)
             ·have hl1 : q_1121 = true := (by simpa using hc1)
              have S1 := S
              intro v_1301 hF_1302
              obtain rfl := cndF.neg hF_1302 hc1
              replace S1 := S1.put (by decide : 197 < 211) (undef)
              intro v_1303 hF_1304
              obtain rfl := cndF.neg hF_1304 hc1
              replace S1 := S1.put (by decide : 198 < 211) (undef)
              intro v_1306 hF_1305; obtain rfl : .bool q_1121 = v_1306 := Eq.symm hF_1305
              replace S1 := S1.put (by decide : 196 < 211) (.bool q_1121)
              refine fill_nil S1 ?_; clear S1; intro a_ S1
              rw [show q_1121 = true from hl1] at S1
              exact RPost.one (v := undef) S1 tys tys_ok rfl (by kernel_rfl) S.defers ⟨fun k_ => absurd k_ hc1, fun _ => rfl⟩ (Below.refl _ _)
            refine RunAll.cons (cndF q_1121 false (isEl .bool (Kx K w.heap.size [some b_52]) y_1137.2.1)) [(cndF q_1121 false (isEl gt2 (Kx K w.heap.size [some b_52]) y_1137), 199), (eqv (.bool q_1121), 196)] rfl rfl ?_ ?_
            ·intro W_ hW
             by_cases hc1 : q_1121 = false
             ·have hl1 : q_1121 = false := hc1
              have S1 := S
              intro v_1307 hF_1308
              replace hF_1308 := cndF.pos hF_1308 hc1
              revert hF_1308
              revert v_1307
              rintro _ ⟨p_1311, rfl, R_1312, H_1313⟩
              replace S1 := S1.put (by decide : 199 < 211) (.pointer (some p_1311))
              intro v_1315 hF_1314; obtain rfl : .bool q_1121 = v_1315 := Eq.symm hF_1314
              replace S1 := S1.put (by decide : 196 < 211) (.bool q_1121)
              refine fill_nil S1 ?_; clear S1; intro a_ S1
              rw [show q_1121 = false from hl1] at S1
              exact RPost.one (v := .pointer (some (p_1311.add (coff gf2 1)))) S1 tys tys_ok rfl (by kernel_rfl) S.defers ⟨fun _ => ⟨_, rfl, (RepAt.add 1 (RepAt.st (t := gf2) R_1312)), (by simpa [Addr.add] using H_1313)⟩, fun k_ => absurd hc1 k_⟩ (Below.refl _ _)
             ·have hl1 : q_1121 = true := (by simpa using hc1)
              have S1 := S
              intro v_1316 hF_1317
              obtain rfl := cndF.neg hF_1317 hc1
              replace S1 := S1.put (by decide : 199 < 211) (undef)
              intro v_1319 hF_1318; obtain rfl : .bool q_1121 = v_1319 := Eq.symm hF_1318
              replace S1 := S1.put (by decide : 196 < 211) (.bool q_1121)
              refine fill_nil S1 ?_; clear S1; intro a_ S1
              rw [show q_1121 = true from hl1] at S1
              exact RPost.one (v := undef) S1 tys tys_ok rfl (by kernel_rfl) S.defers ⟨fun k_ => absurd k_ hc1, fun _ => rfl⟩ (Below.refl _ _)
            refine RunAll.cons (cndF q_1121 false (eqv (.bool y_1137.2.1))) [(cndF q_1121 false (isEl .bool (Kx K w.heap.size [some b_52]) y_1137.2.1), 200), (eqv (.bool q_1121), 196)] rfl rfl ?_ ?_
            ·intro W_ hW
             by_cases hc1 : q_1121 = false
             ·have hl1 : q_1121 = false := hc1
              have S1 := S
              intro v_1320 hF_1321
              replace hF_1321 := cndF.pos hF_1321 hc1
              revert hF_1321
              revert v_1320
              rintro _ ⟨p_1324, rfl, R_1325, H_1326⟩
              replace S1 := S1.put (by decide : 200 < 211) (.pointer (some p_1324))
              intro v_1328 hF_1327; obtain rfl : .bool q_1121 = v_1328 := Eq.symm hF_1327
              replace S1 := S1.put (by decide : 196 < 211) (.bool q_1121)
              refine fill_nil S1 ?_; clear S1; intro a_ S1
              rw [show q_1121 = false from hl1] at S1
              have S0 := S.defers; replace S := S1; clear S1
              obtain ⟨ey_1137, eq_1143, _⟩ := (HG_1136).1 hc1
              refine w_go S rfl (op_load (t := .bool) (x := y_1137.2.1) S rfl ty4 rfl rfl rfl R_1325 ?_)
              clear S; intro a v_1329 R_1330 S
              obtain rfl := RepV.bool R_1330
              refine wpList_nil ?_
              exact RPost.mk_ S rfl S0 ⟨fun _ => rfl, fun k_ => absurd hc1 k_⟩ (Below.refl _ _)
             ·have hl1 : q_1121 = true := (by simpa using hc1)
              have S1 := S
              intro v_1331 hF_1332
              obtain rfl := cndF.neg hF_1332 hc1
              replace S1 := S1.put (by decide : 200 < 211) (undef)
              intro v_1334 hF_1333; obtain rfl : .bool q_1121 = v_1334 := Eq.symm hF_1333
              replace S1 := S1.put (by decide : 196 < 211) (.bool q_1121)
              refine fill_nil S1 ?_; clear S1; intro a_ S1
              rw [show q_1121 = true from hl1] at S1
              exact RPost.one (v := undef) S1 tys tys_ok rfl (by kernel_rfl) S.defers ⟨fun k_ => absurd k_ hc1, fun _ => rfl⟩ (Below.refl _ _)
            refine RunAll.cons (cndF q_1121 false (eqv (.bool y_1137.2.1))) [(cndF q_1121 false (eqv (.bool y_1137.2.1)), 201), (eqv (.bool q_1121), 196)] rfl rfl ?_ ?_
            ·intro W_ hW
             by_cases hc1 : q_1121 = false
             ·have hl1 : q_1121 = false := hc1
              have S1 := S
              intro v_1335 hF_1336
              replace hF_1336 := cndF.pos hF_1336 hc1
              revert hF_1336
              revert v_1335
              intro v_1338 hF_1337; obtain rfl : .bool y_1137.2.1 = v_1338 := Eq.symm hF_1337
              replace S1 := S1.put (by decide : 201 < 211) (.bool y_1137.2.1)
              intro v_1340 hF_1339; obtain rfl : .bool q_1121 = v_1340 := Eq.symm hF_1339
              replace S1 := S1.put (by decide : 196 < 211) (.bool q_1121)
              refine fill_nil S1 ?_; clear S1; intro a_ S1
              rw [show q_1121 = false from hl1] at S1
              exact RPost.one (v := .bool y_1137.2.1) S1 tys tys_ok rfl (by kernel_rfl) S.defers ⟨fun _ => rfl, fun k_ => absurd hc1 k_⟩ (Below.refl _ _)
             ·have hl1 : q_1121 = true := (by simpa using hc1)
              have S1 := S
              intro v_1341 hF_1342
              obtain rfl := cndF.neg hF_1342 hc1
              replace S1 := S1.put (by decide : 201 < 211) (undef)
              intro v_1344 hF_1343; obtain rfl : .bool q_1121 = v_1344 := Eq.symm hF_1343
              replace S1 := S1.put (by decide : 196 < 211) (.bool q_1121)
              refine fill_nil S1 ?_; clear S1; intro a_ S1
              rw [show q_1121 = true from hl1] at S1
              exact RPost.one (v := undef) S1 tys tys_ok rfl (by kernel_rfl) S.defers ⟨fun k_ => absurd k_ hc1, fun _ => rfl⟩ (Below.refl _ _)
            refine RunAll.cons (cndF q_1121 false (cndF y_1137.2.1 true (isRep (.sl gt2) (Kx K w.heap.size [some b_52]) t_29.1))) [(cndF q_1121 false (eqv (.bool y_1137.2.1)), 202)] rfl rfl ?_ ?_
            ·intro W_ hW
             by_cases hc1 : q_1121 = false
             ·have hl1 : q_1121 = false := hc1
              by_cases hc2 : y_1137.2.1 = true
              ·have hl2 : y_1137.2.1 = true := hc2
               have S1 := S
               intro v_1345 hF_1346
               replace hF_1346 := cndF.pos hF_1346 hc1
               revert hF_1346
               revert v_1345
               intro v_1348 hF_1347; obtain rfl : .bool y_1137.2.1 = v_1348 := Eq.symm hF_1347
               replace S1 := S1.put (by decide : 202 < 211) (.bool y_1137.2.1)
               refine fill_nil S1 ?_; clear S1; intro a_ S1
               replace R_33 := R_33.step hW
               rw [show y_1137.2.1 = true from hl2] at S1
               exact RPost.one (v := v_30) S1 tys tys_ok rfl (by kernel_rfl) S.defers ⟨fun _ => ⟨fun _ => R_33, fun k_ => absurd hc2 k_⟩, fun k_ => absurd hc1 k_⟩ (Below.refl _ _)
              ·have hl2 : y_1137.2.1 = false := Bool.eq_false_iff.2 hc2
               have S1 := S
               intro v_1349 hF_1350
               replace hF_1350 := cndF.pos hF_1350 hc1
               revert hF_1350
               revert v_1349
               intro v_1352 hF_1351; obtain rfl : .bool y_1137.2.1 = v_1352 := Eq.symm hF_1351
               replace S1 := S1.put (by decide : 202 < 211) (.bool y_1137.2.1)
               refine fill_nil S1 ?_; clear S1; intro a_ S1
               rw [show y_1137.2.1 = false from hl2] at S1
               exact RPost.one (v := undef) S1 tys tys_ok rfl (by kernel_rfl) S.defers ⟨fun _ => ⟨fun k_ => absurd k_ hc2, fun _ => rfl⟩, fun k_ => absurd hc1 k_⟩ (Below.refl _ _)
             ·have hl1 : q_1121 = true := (by simpa using hc1)
              have S1 := S
              intro v_1353 hF_1354
              obtain rfl := cndF.neg hF_1354 hc1
              replace S1 := S1.put (by decide : 202 < 211) (undef)
              exact RPost.one (v := undef) S1 tys tys_ok rfl (by kernel_rfl) S.defers ⟨fun k_ => absurd k_ hc1, fun _ => rfl⟩ (Below.refl _ _)
            refine RunAll.cons (cndF q_1121 false (cndF y_1137.2.1 true (isI .i64 c_1100))) [(cndF q_1121 false (eqv (.bool y_1137.2.1)), 202)] rfl rfl ?_ ?_
            ·intro W_ hW
             by_cases hc1 : q_1121 = false
             ·have hl1 : q_1121 = false := hc1
              by_cases hc2 : y_1137.2.1 = true
              ·have hl2 : y_1137.2.1 = true := hc2
               have S1 := S
               intro v_1355 hF_1356
               replace hF_1356 := cndF.pos hF_1356 hc1
               revert hF_1356
               revert v_1355
               intro v_1358 hF_1357; obtain rfl : .bool y_1137.2.1 = v_1358 := Eq.symm hF_1357
               replace S1 := S1.put (by decide : 202 < 211) (.bool y_1137.2.1)
               refine fill_nil S1 ?_; clear S1; intro a_ S1
               rw [show y_1137.2.1 = true from hl2] at S1
               exact RPost.one (v := .int .i64 c_1100) S1 tys tys_ok rfl (by kernel_rfl) S.defers ⟨fun _ => ⟨fun _ => ⟨rfl, G_1101⟩, fun k_ => absurd hc2 k_⟩, fun k_ => absurd hc1 k_⟩ (Below.refl _ _)
              ·have hl2 : y_1137.2.1 = false := Bool.eq_false_iff.2 hc2
               have S1 := S
               intro v_1359 hF_1360
               replace hF_1360 := cndF.pos hF_1360 hc1
               revert hF_1360
               revert v_1359
               intro v_1362 hF_1361; obtain rfl : .bool y_1137.2.1 = v_1362 := Eq.symm hF_1361
               replace S1 := S1.put (by decide : 202 < 211) (.bool y_1137.2.1)
               refine fill_nil S1 ?_; clear S1; intro a_ S1
               rw [show y_1137.2.1 = false from hl2] at S1
               exact RPost.one (v := undef) S1 tys tys_ok rfl (by kernel_rfl) S.defers ⟨fun _ => ⟨fun k_ => absurd k_ hc2, fun _ => rfl⟩, fun k_ => absurd hc1 k_⟩ (Below.refl _ _)
             ·have hl1 : q_1121 = true := (by simpa using hc1)
              have S1 := S
              intro v_1363 hF_1364
              obtain rfl := cndF.neg hF_1364 hc1
              replace S1 := S1.put (by decide : 202 < 211) (undef)
              exact RPost.one (v := undef) S1 tys tys_ok rfl (by kernel_rfl) S.defers ⟨fun k_ => absurd k_ hc1, fun _ => rfl⟩ (Below.refl _ _)
            refine RunAll.cons (cndF q_1121 false (cndF y_1137.2.1 true (isEl gt2 (Kx K w.heap.size [some b_52]) y_1145))) [(cndF q_1121 false (cndF y_1137.2.1 true (isRep (.sl gt2) (Kx K w.heap.size [some b_52]) t_29.1)), 203), (cndF q_1121 false (cndF y_1137.2.1 true (isI .i64 c_1100)), 204), (cndF q_1121 false (eqv (.bool y_1137.2.1)), 202)] rfl rfl ?_ ?_
            ·intro W_ hW
             by_cases hc1 : q_1121 = false
             ·have hl1 : q_1121 = false := hc1
              by_cases hc2 : y_1137.2.1 = true
              ·have hl2 : y_1137.2.1 = true := hc2
               have S1 := S
               intro v_1365 hF_1366
               replace hF_1366 := cndF.pos hF_1366 hc1
               replace hF_1366 := cndF.pos hF_1366 hc2
               revert hF_1366
               revert v_1365
               intro v_1368 hF_1367; replace hF_1367 : RepV _ _ _ _ _ := hF_1367
               replace S1 := S1.put (by decide : 203 < 211) (v_1368)
               intro v_1369 hF_1370
               replace hF_1370 := cndF.pos hF_1370 hc1
               replace hF_1370 := cndF.pos hF_1370 hc2
               revert hF_1370
               revert v_1369
               rintro _ ⟨rfl, hF_1371⟩
               replace S1 := S1.put (by decide : 204 < 211) (.int .i64 c_1100)
               intro v_1373 hF_1374
               replace hF_1374 := cndF.pos hF_1374 hc1
               revert hF_1374
               revert v_1373
               intro v_1376 hF_1375; obtain rfl : .bool y_1137.2.1 = v_1376 := Eq.symm hF_1375
               replace S1 := S1.put (by decide : 202 < 211) (.bool y_1137.2.1)
               refine fill_nil S1 ?_; clear S1; intro a_ S1
               replace W := W.step hW
               rw [show y_1137.2.1 = true from hl2] at S1
               have S0 := S.defers; replace S := S1; clear S1
               obtain ⟨ey_1137, eq_1143, _⟩ := (HG_1136).1 hc1
               obtain ⟨ey_1145, _⟩ := (HG_1144 hc1).1 hc2
               refine w_go S rfl (op_indexAddr S rfl ty25 rfl rfl rfl hF_1367 rfl ey_1145 ?_)
               clear S; intro a p_1377 R_1378 H_1379 S
               refine wpList_nil ?_
               exact RPost.mk_ S rfl S0 ⟨fun _ => ⟨fun _ => ⟨_, rfl, R_1378, H_1379⟩, fun k_ => absurd hc2 k_⟩, fun k_ => absurd hc1 k_⟩ (Below.refl _ _)
              ·have hl2 : y_1137.2.1 = false := Bool.eq_false_iff.2 hc2
               have S1 := S
               intro v_1380 hF_1381
               replace hF_1381 := cndF.pos hF_1381 hc1
               obtain rfl := cndF.neg hF_1381 hc2
               replace S1 := S1.put (by decide : 203 < 211) (undef)
               intro v_1382 hF_1383
               replace hF_1383 := cndF.pos hF_1383 hc1
               obtain rfl := cndF.neg hF_1383 hc2
               replace S1 := S1.put (by decide : 204 < 211) (undef)
               intro v_1384 hF_1385
               replace hF_1385 := cndF.pos hF_1385 hc1
               revert hF_1385
               revert v_1384
               intro v_1387 hF_1386; obtain rfl : .bool y_1137.2.1 = v_1387 := Eq.symm hF_1386
               replace S1 := S1.put (by decide : 202 < 211) (.bool y_1137.2.1)
               refine fill_nil S1 ?_; clear S1; intro a_ S1
               rw [show y_1137.2.1 = false from hl2] at S1
               exact RPost.one (v := undef) S1 tys tys_ok rfl (by kernel_rfl) S.defers ⟨fun _ => ⟨fun k_ => absurd k_ hc2, fun _ => rfl⟩, fun k_ => absurd hc1 k_⟩ (Below.refl _ _)
             ·have hl1 : q_1121 = true := (by simpa using hc1)
              have S1 := S
              intro v_1388 hF_1389
              obtain rfl := cndF.neg hF_1389 hc1
              replace S1 := S1.put (by decide : 203 < 211) (undef)
              intro v_1390 hF_1391
              obtain rfl := cndF.neg hF_1391 hc1
              replace S1 := S1.put (by decide : 204 < 211) (undef)
              intro v_1392 hF_1393
              obtain rfl := cndF.neg hF_1393 hc1
              replace S1 := S1.put (by decide : 202 < 211) (undef)
              exact RPost.one (v := undef) S1 tys tys_ok rfl (by kernel_rfl) S.defers ⟨fun k_ => absurd k_ hc1, fun _ => rfl⟩ (Below.refl _ _)
            refine RunAll.cons (cndF q_1121 false (cndF y_1137.2.1 true (isEl .bool (Kx K w.heap.size [some b_52]) y_1145.2.2.2.1))) [(cndF q_1121 false (cndF y_1137.2.1 true (isEl gt2 (Kx K w.heap.size [some b_52]) y_1145)), 205), (cndF q_1121 false (eqv (.bool y_1137.2.1)), 202)] rfl rfl ?_ ?_
            ·intro W_ hW
             by_cases hc1 : q_1121 = false
             ·have hl1 : q_1121 = false := hc1
              by_cases hc2 : y_1137.2.1 = true
              ·have hl2 : y_1137.2.1 = true := hc2
               have S1 := S
               intro v_1394 hF_1395
               replace hF_1395 := cndF.pos hF_1395 hc1
               replace hF_1395 := cndF.pos hF_1395 hc2
               revert hF_1395
               revert v_1394
               rintro _ ⟨p_1398, rfl, R_1399, H_1400⟩
               replace S1 := S1.put (by decide : 205 < 211) (.pointer (some p_1398))
               intro v_1401 hF_1402
               replace hF_1402 := cndF.pos hF_1402 hc1
               revert hF_1402
               revert v_1401
               intro v_1404 hF_1403; obtain rfl : .bool y_1137.2.1 = v_1404 := Eq.symm hF_1403
               replace S1 := S1.put (by decide : 202 < 211) (.bool y_1137.2.1)
               refine fill_nil S1 ?_; clear S1; intro a_ S1
               rw [show y_1137.2.1 = true from hl2] at S1
               exact RPost.one (v := .pointer (some (p_1398.add (coff gf2 3)))) S1 tys tys_ok rfl (by kernel_rfl) S.defers ⟨fun _ => ⟨fun _ => ⟨_, rfl, (RepAt.add 3 (RepAt.st (t := gf2) R_1399)), (by simpa [Addr.add] using H_1400)⟩, fun k_ => absurd hc2 k_⟩, fun k_ => absurd hc1 k_⟩ (Below.refl _ _)
              ·have hl2 : y_1137.2.1 = false := Bool.eq_false_iff.2 hc2
               have S1 := S
               intro v_1405 hF_1406
               replace hF_1406 := cndF.pos hF_1406 hc1
               obtain rfl := cndF.neg hF_1406 hc2
               replace S1 := S1.put (by decide : 205 < 211) (undef)
               intro v_1407 hF_1408
               replace hF_1408 := cndF.pos hF_1408 hc1
               revert hF_1408
               revert v_1407
               intro v_1410 hF_1409; obtain rfl : .bool y_1137.2.1 = v_1410 := Eq.symm hF_1409
               replace S1 := S1.put (by decide : 202 < 211) (.bool y_1137.2.1)
               refine fill_nil S1 ?_; clear S1; intro a_ S1
               rw [show y_1137.2.1 = false from hl2] at S1
               exact RPost.one (v := undef) S1 tys tys_ok rfl (by kernel_rfl) S.defers ⟨fun _ => ⟨fun k_ => absurd k_ hc2, fun _ => rfl⟩, fun k_ => absurd hc1 k_⟩ (Below.refl _ _)
             ·have hl1 : q_1121 = true := (by simpa using hc1)
              have S1 := S
              intro v_1411 hF_1412
              obtain rfl := cndF.neg hF_1412 hc1
              replace S1 := S1.put (by decide : 205 < 211) (undef)
              intro v_1413 hF_1414
              obtain rfl := cndF.neg hF_1414 hc1
              replace S1 := S1.put (by decide : 202 < 211) (undef)
              exact RPost.one (v := undef) S1 tys tys_ok rfl (by kernel_rfl) S.defers ⟨fun k_ => absurd k_ hc1, fun _ => rfl⟩ (Below.refl _ _)
            refine RunAll.cons (cndF q_1121 false (cndF y_1137.2.1 true (eqv (.bool y_1145.2.2.2.1)))) [(cndF q_1121 false (cndF y_1137.2.1 true (isEl .bool (Kx K w.heap.size [some b_52]) y_1145.2.2.2.1)), 206), (cndF q_1121 false (eqv (.bool y_1137.2.1)), 202)] rfl rfl ?_ ?_
            ·intro W_ hW
             by_cases hc1 : q_1121 = false
             ·have hl1 : q_1121 = false := hc1
              by_cases hc2 : y_1137.2.1 = true
              ·have hl2 : y_1137.2.1 = true := hc2
               have S1 := S
               intro v_1415 hF_1416
               replace hF_1416 := cndF.pos hF_1416 hc1
               replace hF_1416 := cndF.pos hF_1416 hc2
               revert hF_1416
               revert v_1415
               rintro _ ⟨p_1419, rfl, R_1420, H_1421⟩
               replace S1 := S1.put (by decide : 206 < 211) (.pointer (some p_1419))
               intro v_1422 hF_1423
               replace hF_1423 := cndF.pos hF_1423 hc1
               revert hF_1423
               revert v_1422
               intro v_1425 hF_1424; obtain rfl : .bool y_1137.2.1 = v_1425 := Eq.symm hF_1424
               replace S1 := S1.put (by decide : 202 < 211) (.bool y_1137.2.1)
               refine fill_nil S1 ?_; clear S1; intro a_ S1
               rw [show y_1137.2.1 = true from hl2] at S1
               have S0 := S.defers; replace S := S1; clear S1
               obtain ⟨ey_1137, eq_1143, _⟩ := (HG_1136).1 hc1
               obtain ⟨ey_1145, _⟩ := (HG_1144 hc1).1 hc2
               refine w_go S rfl (op_load (t := .bool) (x := y_1145.2.2.2.1) S rfl ty4 rfl rfl rfl R_1420 ?_)
               clear S; intro a v_1426 R_1427 S
               obtain rfl := RepV.bool R_1427
               refine wpList_nil ?_
               exact RPost.mk_ S rfl S0 ⟨fun _ => ⟨fun _ => rfl, fun k_ => absurd hc2 k_⟩, fun k_ => absurd hc1 k_⟩ (Below.refl _ _)
              ·have hl2 : y_1137.2.1 = false := Bool.eq_false_iff.2 hc2
               have S1 := S
               intro v_1428 hF_1429
               replace hF_1429 := cndF.pos hF_1429 hc1
               obtain rfl := cndF.neg hF_1429 hc2
               replace S1 := S1.put (by decide : 206 < 211) (undef)
               intro v_1430 hF_1431
               replace hF_1431 := cndF.pos hF_1431 hc1
               revert hF_1431
               revert v_1430
               intro v_1433 hF_1432; obtain rfl : .bool y_1137.2.1 = v_1433 := Eq.symm hF_1432
               replace S1 := S1.put (by decide : 202 < 211) (.bool y_1137.2.1)
               refine fill_nil S1 ?_; clear S1; intro a_ S1
               rw [show y_1137.2.1 = false from hl2] at S1
               exact RPost.one (v := undef) S1 tys tys_ok rfl (by kernel_rfl) S.defers ⟨fun _ => ⟨fun k_ => absurd k_ hc2, fun _ => rfl⟩, fun k_ => absurd hc1 k_⟩ (Below.refl _ _)
             ·have hl1 : q_1121 = true := (by simpa using hc1)
              have S1 := S
              intro v_1434 hF_1435
              obtain rfl := cndF.neg hF_1435 hc1
              replace S1 := S1.put (by decide : 206 < 211) (undef)
              intro v_1436 hF_1437
              obtain rfl := cndF.neg hF_1437 hc1
              replace S1 := S1.put (by decide : 202 < 211) (undef)
              exact RPost.one (v := undef) S1 tys tys_ok rfl (by kernel_rfl) S.defers ⟨fun k_ => absurd k_ hc1, fun _ => rfl⟩ (Below.refl _ _)
            refine RunAll.cons (cndF q_1121 false (eqv (.bool q_1143))) [(cndF q_1121 false (eqv (.bool y_1137.2.1)), 202), (cndF q_1121 false (cndF y_1137.2.1 true (eqv (.bool y_1145.2.2.2.1))), 207), (eqv (.bool q_1121), 196)] rfl rfl ?_ ?_
            ·intro W_ hW
             by_cases hc1 : q_1121 = false
             ·have hl1 : q_1121 = false := hc1
              by_cases hc2 : y_1137.2.1 = true
              ·have hl2 : y_1137.2.1 = true := hc2
               have S1 := S
               intro v_1438 hF_1439
               replace hF_1439 := cndF.pos hF_1439 hc1
               revert hF_1439
               revert v_1438
               intro v_1441 hF_1440; obtain rfl : .bool y_1137.2.1 = v_1441 := Eq.symm hF_1440
               replace S1 := S1.put (by decide : 202 < 211) (.bool y_1137.2.1)
               intro v_1442 hF_1443
               replace hF_1443 := cndF.pos hF_1443 hc1
               replace hF_1443 := cndF.pos hF_1443 hc2
               revert hF_1443
               revert v_1442
               intro v_1445 hF_1444; obtain rfl : .bool y_1145.2.2.2.1 = v_1445 := Eq.symm hF_1444
               replace S1 := S1.put (by decide : 207 < 211) (.bool y_1145.2.2.2.1)
               intro v_1447 hF_1446; obtain rfl : .bool q_1121 = v_1447 := Eq.symm hF_1446
               replace S1 := S1.put (by decide : 196 < 211) (.bool q_1121)
               refine fill_nil S1 ?_; clear S1; intro a_ S1
               rw [show q_1121 = false from hl1] at S1
               rw [show y_1137.2.1 = true from hl2] at S1
               exact RPost.one (v := .bool y_1145.2.2.2.1) S1 tys tys_ok rfl (by kernel_rfl) S.defers ⟨fun _ => (congrArg Value.bool ((HG_1144 hc1).1 hc2).2), fun k_ => absurd hc1 k_⟩ (Below.refl _ _)
              ·have hl2 : y_1137.2.1 = false := Bool.eq_false_iff.2 hc2
               have S1 := S
               intro v_1448 hF_1449
               replace hF_1449 := cndF.pos hF_1449 hc1
               revert hF_1449
               revert v_1448
               intro v_1451 hF_1450; obtain rfl : .bool y_1137.2.1 = v_1451 := Eq.symm hF_1450
               replace S1 := S1.put (by decide : 202 < 211) (.bool y_1137.2.1)
               intro v_1452 hF_1453
               replace hF_1453 := cndF.pos hF_1453 hc1
               obtain rfl := cndF.neg hF_1453 hc2
               replace S1 := S1.put (by decide : 207 < 211) (undef)
               intro v_1455 hF_1454; obtain rfl : .bool q_1121 = v_1455 := Eq.symm hF_1454
               replace S1 := S1.put (by decide : 196 < 211) (.bool q_1121)
               refine fill_nil S1 ?_; clear S1; intro a_ S1
               rw [show q_1121 = false from hl1] at S1
               rw [show y_1137.2.1 = false from hl2] at S1
               exact RPost.one (v := .bool false) S1 tys tys_ok rfl (by kernel_rfl) S.defers ⟨fun _ => (congrArg Value.bool ((HG_1144 hc1).2 hc2)), fun k_ => absurd hc1 k_⟩ (Below.refl _ _)
             ·have hl1 : q_1121 = true := (by simpa using hc1)
              have S1 := S
              intro v_1456 hF_1457
              obtain rfl := cndF.neg hF_1457 hc1
              replace S1 := S1.put (by decide : 202 < 211) (undef)
              intro v_1458 hF_1459
              obtain rfl := cndF.neg hF_1459 hc1
              replace S1 := S1.put (by decide : 207 < 211) (undef)
              intro v_1461 hF_1460; obtain rfl : .bool q_1121 = v_1461 := Eq.symm hF_1460
              replace S1 := S1.put (by decide : 196 < 211) (.bool q_1121)
              refine fill_nil S1 ?_; clear S1; intro a_ S1
              rw [show q_1121 = true from hl1] at S1
              exact RPost.one (v := undef) S1 tys tys_ok rfl (by kernel_rfl) S.defers ⟨fun k_ => absurd k_ hc1, fun _ => rfl⟩ (Below.refl _ _)
            refine RunAll.cons (eqv (.bool q_1135)) [(eqv (.bool q_1121), 196), (cndF q_1121 false (eqv (.bool q_1143)), 208)] rfl rfl ?_ ?_
            ·intro W_ hW
             by_cases hc1 : q_1121 = false
             ·have hl1 : q_1121 = false := hc1
              have S1 := S
              intro v_1463 hF_1462; obtain rfl : .bool q_1121 = v_1463 := Eq.symm hF_1462
              replace S1 := S1.put (by decide : 196 < 211) (.bool q_1121)
              intro v_1464 hF_1465
              replace hF_1465 := cndF.pos hF_1465 hc1
              revert hF_1465
              revert v_1464
              intro v_1467 hF_1466; obtain rfl : .bool q_1143 = v_1467 := Eq.symm hF_1466
              replace S1 := S1.put (by decide : 208 < 211) (.bool q_1143)
              refine fill_nil S1 ?_; clear S1; intro a_ S1
              rw [show q_1121 = false from hl1] at S1
              exact RPost.one (v := .bool q_1143) S1 tys tys_ok rfl (by kernel_rfl) S.defers (congrArg Value.bool ((HG_1136).1 hc1).2.2) (Below.refl _ _)
             ·have hl1 : q_1121 = true := (by simpa using hc1)
              have S1 := S
              intro v_1469 hF_1468; obtain rfl : .bool q_1121 = v_1469 := Eq.symm hF_1468
              replace S1 := S1.put (by decide : 196 < 211) (.bool q_1121)
              intro v_1470 hF_1471
              obtain rfl := cndF.neg hF_1471 hc1
              replace S1 := S1.put (by decide : 208 < 211) (undef)
              refine fill_nil S1 ?_; clear S1; intro a_ S1
              rw [show q_1121 = true from hl1] at S1
              exact RPost.one (v := .bool true) S1 tys tys_ok rfl (by kernel_rfl) S.defers (congrArg Value.bool ((HG_1136).2 hc1)) (Below.refl _ _)
            exact trivial
           intro w_1472 hb_1473
           refine EndE.some_ rfl ?_
           rintro _ ⟨rfl, hF_1474⟩
           replace S := S.put (by decide : 182 < 211) (.int .i64 t_1116)
           refine EndE.some_ rfl ?_
           intro v_1477 hF_1476; obtain rfl : .bool (decide (t_1116 < 0)) = v_1477 := Eq.symm hF_1476
           replace S := S.put (by decide : 183 < 211) (.bool (decide (t_1116 < 0)))
           refine EndE.some_ rfl ?_
           intro v_1479 hF_1478; obtain rfl : .bool (decide (t_1116 < 0)) = v_1479 := Eq.symm hF_1478
           replace S := S.put (by decide : 184 < 211) (.bool (decide (t_1116 < 0)))
           refine EndE.some_ rfl ?_
           intro v_1480 _
           replace S := S.put (by decide : 185 < 211) (v_1480)
           refine EndE.some_ rfl ?_
           intro v_1481 _
           replace S := S.put (by decide : 186 < 211) (v_1481)
           refine EndE.some_ rfl ?_
           intro v_1482 _
           replace S := S.put (by decide : 187 < 211) (v_1482)
           refine EndE.some_ rfl ?_
           intro v_1483 _
           replace S := S.put (by decide : 188 < 211) (v_1483)
           refine EndE.some_ rfl ?_
           intro v_1484 _
           replace S := S.put (by decide : 189 < 211) (v_1484)
           refine EndE.some_ rfl ?_
           intro v_1485 _
           replace S := S.put (by decide : 190 < 211) (v_1485)
           refine EndE.some_ rfl ?_
           intro v_1486 _
           replace S := S.put (by decide : 191 < 211) (v_1486)
           refine EndE.some_ rfl ?_
           intro v_1487 _
           replace S := S.put (by decide : 192 < 211) (v_1487)
           refine EndE.some_ rfl ?_
           intro v_1488 _
           replace S := S.put (by decide : 193 < 211) (v_1488)
           refine EndE.some_ rfl ?_
           intro v_1489 _
           replace S := S.put (by decide : 194 < 211) (v_1489)
           refine EndE.some_ rfl ?_
           intro v_1491 hF_1490; obtain rfl : .bool q_1121 = v_1491 := Eq.symm hF_1490
           replace S := S.put (by decide : 195 < 211) (.bool q_1121)
           refine EndE.some_ rfl ?_
           intro v_1493 hF_1492; obtain rfl : .bool q_1121 = v_1493 := Eq.symm hF_1492
           replace S := S.put (by decide : 196 < 211) (.bool q_1121)
           refine EndE.some_ rfl ?_
           intro v_1494 _
           replace S := S.put (by decide : 197 < 211) (v_1494)
           refine EndE.some_ rfl ?_
           intro v_1495 _
           replace S := S.put (by decide : 198 < 211) (v_1495)
           refine EndE.some_ rfl ?_
           intro v_1496 _
           replace S := S.put (by decide : 199 < 211) (v_1496)
           refine EndE.some_ rfl ?_
           intro v_1497 _
           replace S := S.put (by decide : 200 < 211) (v_1497)
           refine EndE.some_ rfl ?_
           intro v_1498 _
           replace S := S.put (by decide : 201 < 211) (v_1498)
           refine EndE.some_ rfl ?_
           intro v_1499 _
           replace S := S.put (by decide : 202 < 211) (v_1499)
           refine EndE.some_ rfl ?_
           intro v_1500 _
           replace S := S.put (by decide : 203 < 211) (v_1500)
           refine EndE.some_ rfl ?_
           intro v_1501 _
           replace S := S.put (by decide : 204 < 211) (v_1501)
           refine EndE.some_ rfl ?_
           intro v_1502 _
           replace S := S.put (by decide : 205 < 211) (v_1502)
           refine EndE.some_ rfl ?_
           intro v_1503 _
           replace S := S.put (by decide : 206 < 211) (v_1503)
           refine EndE.some_ rfl ?_
           intro v_1504 _
           replace S := S.put (by decide : 207 < 211) (v_1504)
           refine EndE.some_ rfl ?_
           intro v_1505 _
           replace S := S.put (by decide : 208 < 211) (v_1505)
           refine EndE.some_ rfl ?_
           intro v_1507 hF_1506; obtain rfl : .bool q_1135 = v_1507 := Eq.symm hF_1506
           replace S := S.put (by decide : 209 < 211) (.bool q_1135)
           refine endE_nil S ?_; clear S; intro a S
           replace R_33 := R_33.step hb_1473
           replace R0 := R0.step hb_1473
           replace R_48 := R_48.step hb_1473
           replace O_114 := O_114.step hb_1473
           replace W := W.step hb_1473
           refine then_n ?_
           replace S := S.sub (l' := [(209, .bool q_1135), (15, .int .i64 c_1100), (3, v_30), (0, v0), (4, .int .i64 c_7), (8, v_47), (9, (.slice (some ⟨b_52, 0, .none⟩) m_51.1 m_51.2))]) (by exact ⟨rfl, rfl, rfl, rfl, rfl, rfl, rfl, trivial⟩)
           refine wp_cond_split (S.eval (show ev _ _ = some (.bool q_1135) from rfl)) ?_ ?_
           ·intro hc
            rw [if_pos hc] at hl_1107
            refine wp_seq ?_
            refine wp_region_lit ?_
            refine wl_pureK (l' := [(2, .bool false)]) S tys tys_ok 1 [2] (by kernel_rfl) ?_
            clear S; intro a S
            refine wpList_nil ?_
            refine then_n ?_
            refine wp_ret ?_
            refine blk_r ?_
            refine then_r ?_
            refine then_r ?_
            refine blk_r ?_
            refine then_r ?_
            refine blk_r ?_
            refine then_r ?_
            refine then_r ?_
            refine blk_r ?_
            refine then_r ?_
            refine then_r ?_
            obtain rfl := Option.some.inj hl_1107
            have hq_ := lr_inr2 hl_20; subst hq_
            obtain rfl := lr_inr h
            exact b_ret1 S rfl rfl ⟨_, rfl, RepV.mkBool, W.below⟩
           ·intro hc
            rw [if_neg (Bool.eq_false_iff.1 hc)] at hl_1107
            refine wp_skip ?_
            refine blk_n ?_
            refine then_n ?_
            replace S := S.sub (l' := [(15, .int .i64 c_1100), (3, v_30), (0, v0), (4, .int .i64 c_7), (8, v_47), (9, (.slice (some ⟨b_52, 0, .none⟩) m_51.1 m_51.2))]) (by exact ⟨rfl, rfl, rfl, rfl, rfl, rfl, trivial⟩)
            refine wp_region_lit ?_
            refine wl_pure (l' := [(173, .int .i64 c_1100), (15, .int .i64 c_1100), (3, v_30), (0, v0), (4, .int .i64 c_7), (8, v_47), (9, (.slice (some ⟨b_52, 0, .none⟩) m_51.1 m_51.2))]) S tys tys_ok 1 (by kernel_rfl) ?_
            clear S; intro a S
            obtain ⟨x_1508, ex_1508, hl_1107⟩ := bindS hl_1107
            refine w_go S rfl (op_arith S .i64 (c_1100 + 1) rfl (.inl rfl) rfl rfl rfl rfl ex_1508 ?_)
            clear S; intro a S
            refine wl_pure (l' := [(15, .int .i64 x_1508), (174, .int .i64 x_1508), (173, .int .i64 c_1100), (15, .int .i64 c_1100), (3, v_30), (0, v0), (4, .int .i64 c_7), (8, v_47), (9, (.slice (some ⟨b_52, 0, .none⟩) m_51.1 m_51.2))]) S tys tys_ok 1 (by kernel_rfl) ?_
            clear S; intro a S
            refine wpList_nil ?_
            refine then_n ?_
            exact ⟨x_1508, ⟨S.sub (by exact ⟨rfl, rfl, rfl, rfl, rfl, rfl, trivial⟩), W, (ckI_some ex_1508).2.1, R_33, R0, R_48, O_114, hl_1107⟩⟩
          ·intro hc
           rw [if_neg (Bool.eq_false_iff.1 hc)] at hl_1107
           refine wp_exit ?_
           refine then_x ?_
           refine then_x ?_
           refine blk_hit ?_
           refine then_n ?_
           obtain rfl := Option.some.inj hl_1107
           exact ⟨_, rfl, ⟨S.sub (by exact ⟨rfl, rfl, rfl, trivial⟩), W, R0, R_33⟩⟩
       clear S W; rintro a w_1509 ⟨s_1105, rfl, S, W, R0, R_33⟩
       replace hl_20 := lr_inl hl_20; try dsimp only at hl_20
       refine blk_n ?_
       refine then_n ?_
       refine wp_region_lit ?_
       refine wl_pure (l' := [(25, .int .i64 c_7), (0, v0), (3, v_30), (4, .int .i64 c_7)]) S tys tys_ok 1 (by kernel_rfl) ?_
       clear S; intro a S
       obtain ⟨x_1510, ex_1510, hl_20⟩ := bindS hl_20
       refine w_go S rfl (op_arith S .i64 (c_7 + 1) rfl (.inl rfl) rfl rfl rfl rfl ex_1510 ?_)
       clear S; intro a S
       refine wl_pure (l' := [(4, .int .i64 x_1510), (26, .int .i64 x_1510), (25, .int .i64 c_7), (0, v0), (3, v_30), (4, .int .i64 c_7)]) S tys tys_ok 1 (by kernel_rfl) ?_
       clear S; intro a S
       refine wpList_nil ?_
       refine then_n ?_
       exact ⟨x_1510, t_29.1, ⟨v_30, S.sub (by exact ⟨rfl, rfl, rfl, trivial⟩), (W.drop 1), (ckI_some ex_1510).2.1, (R_33.drop 1), (R0.drop 1), hl_20⟩⟩
     ·intro hc
      rw [if_neg (Bool.eq_false_iff.1 hc)] at hl_20
      refine wp_exit ?_
      refine then_x ?_
      refine then_x ?_
      refine blk_hit ?_
      refine then_n ?_
      obtain rfl := Option.some.inj hl_20
      exact ⟨_, rfl, ⟨S.sub trivial, W⟩⟩
  clear S W; rintro a w_1511 ⟨s_18, rfl, S, W⟩
  replace h := lr_inl h; try dsimp only at h
  refine then_n ?_
  refine wp_seq ?_
  refine wp_region_lit ?_
  obtain ⟨t_1512, et_1512, h⟩ := bindS h
  refine w_go S rfl (op_call (vs := []) S rfl cb8 rfl rfl rfl (c8 (Kx K w.heap.size []) n w_1511  et_1512) ?_)
  rintro _ w_1516 ⟨v_1513, rfl, R_1514, hb_1515⟩; refine ⟨_, rfl, ?_⟩
  replace R_1514 := RepV.back R_1514 W
  clear S; intro a S
  replace W := W.step hb_1515
  obtain rfl := RepV.bool R_1514
  refine wl_pure (l' := [(2, .bool t_1512), (210, .bool t_1512)]) S tys tys_ok 1 (by kernel_rfl) ?_
  clear S; intro a S
  refine wpList_nil ?_
  refine then_n ?_
  replace S := S.sub (l' := [(2, .bool t_1512)]) (by exact ⟨rfl, trivial⟩)
  refine wp_ret ?_
  obtain rfl := Option.some.inj h
  exact b_ret1 S rfl rfl ⟨_, rfl, RepV.mkBool, W.below⟩

end Go.Proofs.Ytflieonbbggmhaa
