/- Functions of the program, as plain data. -/
import Derived.Test.YtlgalcekkffhnaaP2
set_option linter.unusedVariables false
set_option linter.unusedSimpArgs false
namespace Go.Proofs.Ytlgalcekkffhnaa
open Go.RowKit

def p4_l1 (n : Nat) (x2 : Sl (List (Int))) : Nat → (Int) → (List (Int)) → Option ((List (Int)))
 | 0, _, _ => .none
 | m + 1, c_25, c_27 => (if (decide (c_25 < (lenI x2))) = true then some (decide ((lenI (⟨c_27, some c_27.length⟩ : Sl (Int))) > 0)) else some false).bind fun q_42 => if q_42 then ((idx x2.xs c_25).bind fun y_44 => (idx y_44 0).bind fun y_48 => (remI .i64 y_48 (lenI (⟨c_27, some c_27.length⟩ : Sl (Int)))).bind fun x_52 => (idx x2.xs c_25).bind fun y_53 => (idx y_53 0).bind fun y_57 => (remI .u16 y_57 3).bind fun x_60 => (if (x_60 == 0) then ((idx x2.xs c_25).bind fun y_63 => (idx y_63 0).bind fun y_67 => (remI .i64 y_67 12).bind fun x_70 => some x_70) else some x_52).bind fun (j_61 : (Int)) => (idx x2.xs c_25).bind fun y_72 => (idx y_72 0).bind fun y_76 => (remI .u16 y_76 3).bind fun x_79 => (if (x_79 == 1) then ((ckI .i64 ((lenI (⟨c_27, some c_27.length⟩ : Sl (Int))) - 1)).bind fun x_83 => (idx x2.xs c_25).bind fun y_84 => (idx y_84 0).bind fun y_88 => (quoI .u16 y_88 3).bind fun x_91 => (remI .i64 x_91 (if 40 < (lenI (⟨c_27, some c_27.length⟩ : Sl (Int))) then 40 else lenI (⟨c_27, some c_27.length⟩ : Sl (Int)))).bind fun x_93 => (ckI .i64 (x_83 - x_93)).bind fun x_94 => some x_94) else some j_61).bind fun (j_80 : (Int)) => (idx x2.xs c_25).bind fun y_96 => (idx y_96 1).bind fun y_100 => (idx c_27 j_80).bind fun y_103 => (ckI .i64 (c_25 + 1)).bind fun x_111 => p4_l1 n x2 m x_111 (c_27.set j_80.toNat (IntKind.wrap .u8 y_100))) else some c_27
def p4_l2 (n : Nat) (x0 : Sl (Int)) : Nat → (Int) → (Sl (Int)) → Option ((Unit) ⊕ ((Bool)))
 | 0, _, _ => .none
 | m + 1, c_113, c_115 => if (decide (c_113 < 2)) then ((idx (⟨[x0, c_115], some 2⟩ : Sl (Sl (Int))).xs c_113).bind fun y_133 => (p15 n y_133).bind fun t_139 => (p12 n y_133).bind fun t_146 => (if (t_139.2 != t_146.2) = false then (p13 n t_146.1.2 (⟨t_139.1.xs, t_139.1.cap⟩ : Sl (Sl (Int)))).bind fun t_163 => some (!t_163) else some true).bind fun q_159 => (if q_159 = false then (if (t_139.2 != 0) = true then some (t_146.1.1 != 0) else some false).bind fun q_170 => some q_170 else some true).bind fun q_168 => (if q_168 = false then (if (t_139.2 == 0) = true then (p14 n y_133 6).bind fun t_180 => some (t_146.1.1 != t_180) else some false).bind fun q_176 => some q_176 else some true).bind fun q_174 => if q_174 then (some (.inr false)) else (ckI .i64 (c_113 + 1)).bind fun x_567 => p4_l2 n x0 m x_567 c_115) else some (.inl ())
def p4 (n : Nat) (x0 : Sl (Int)) (x1 : Sl (Sl (Int))) (x2 : Sl (List (Int))) : Option ((Bool)) :=
 (if (decide ((lenI x0) > 600)) = false then some (decide ((lenI x1) > 20)) else some true).bind fun q_2 =>
 (if q_2 = false then some (decide ((lenI x2) > 6)) else some true).bind fun q_4 =>
 if q_4 then ((p8 n).bind fun t_6 => some t_6) else (p11 n (0, x1)).bind fun t_13 => (if (t_13.2 != 0) then (some ([])) else some t_13.1.xs).bind fun (j_20 : (List (Int))) => (p4_l1 n x2 n 0 j_20).bind fun (y_35 : (List (Int))) => (p4_l2 n x0 n 0 (⟨y_35, some y_35.length⟩ : Sl (Int))).bind fun (y_123 : (Unit) ⊕ ((Bool))) => lrK y_123 some fun (s_124 : Unit) => (p8 n).bind fun t_569 => some t_569
set_option maxHeartbeats 4000000 in
set_option maxRecDepth 100000 in
/-- plugboard/plugboardlaw43.NetworksDecode -/
theorem c4 (K : Nat → Prop) (n : Nat) (w : World) (x0 : Sl (Int)) (v0 : Value) (R0 : RepV (.sl (.int .u8)) w K v0 x0) (x1 : Sl (Sl (Int))) (v1 : Value) (R1 : RepV (.sl (.sl (.int .u8))) w K v1 x1) (x2 : Sl (List (Int))) (v2 : Value) (R2 : RepV (.sl (.arr 2 (.int .u16))) w K v2 x2) {r : (Bool)} (h : p4 n x0 x1 x2 = some r) :
  Calls Try.prog 4 #[v0, v1, v2] w (Ret1 .bool w (Kx K w.heap.size []) r) := by
 refine enter (args := [v0, v1, v2]) Try.func4 rfl 156 rfl rfl fun a S => ?_
 have W := Wd.start w
 replace R0 := R0.arg
 replace R1 := R1.arg
 replace R2 := R2.arg
 unfold p4 at h
 replace S : St 156 a [(0, v0), (1, v1), (2, v2)] := S
 refine wp_seq ?_
 refine wp_region_lit ?_
 refine wl_pure (l' := [(6, .bool false), (0, v0), (1, v1), (2, v2)]) S tys tys_ok 1 (by kernel_rfl) ?_
 clear S; intro a S
 refine wpList_nil ?_
 refine then_n ?_
 replace S := S.sub (l' := [(0, v0), (1, v1), (2, v2)]) (by exact ⟨rfl, rfl, rfl, trivial⟩)
 refine wp_seq ?_
 refine wp_seq ?_
 refine wp_region_lit ?_
 refine wl_pure (l' := [(17, v0), (0, v0), (1, v1), (2, v2)]) S tys tys_ok 1 (by kernel_rfl) ?_
 clear S; intro a S
 refine w_go S rfl (op_len (K := _) S rfl ty28 rfl rfl rfl R0 ?_)
 clear S; intro a G_1 S
 refine wl_pureK (l' := [(20, .bool (decide ((lenI x0) > 600))), (0, v0), (1, v1), (2, v2)]) S tys tys_ok 2 [20, 0, 1, 2] (by kernel_rfl) ?_
 clear S; intro a S
 obtain ⟨q_2, eq_2, h⟩ := bindS h
 refine seg 4 (fun a_ w_ => w = w_ ∧ St 156 a_ [(24, .bool q_2), (0, v0), (1, v1), (2, v2)]) ?_ ?_
 ·by_cases hc : (decide ((lenI x0) > 600)) = false
  ·rw [if_pos hc] at eq_2; rw [hc] at S
   refine wl_pure (l' := [(21, v1), (20, .bool false), (0, v0), (1, v1), (2, v2)]) S tys tys_ok 1 (by kernel_rfl) ?_
   clear S; intro a S
   refine w_go S rfl (op_len (K := _) S rfl ty23 rfl rfl rfl R1 ?_)
   clear S; intro a G_3 S
   refine wl_pureK (l' := [(24, .bool (decide ((lenI x1) > 20))), (0, v0), (1, v1), (2, v2)]) S tys tys_ok 2 [24, 0, 1, 2] (by kernel_rfl) ?_
   clear S; intro a S
   obtain rfl := Option.some.inj eq_2
   exact ⟨rfl, S.sub (by exact ⟨rfl, rfl, rfl, rfl, trivial⟩)⟩
  ·rw [if_neg hc] at eq_2; rw [show (decide ((lenI x0) > 600)) = true from (by simpa using hc)] at S
   refine wl_pureK (l' := [(24, .bool true), (0, v0), (1, v1), (2, v2)]) S tys tys_ok 4 [24, 0, 1, 2] (by kernel_rfl) ?_
   clear S; intro a S
   obtain rfl := Option.some.inj eq_2
   exact ⟨rfl, S.sub (by exact ⟨rfl, rfl, rfl, rfl, trivial⟩)⟩
 clear S eq_2; rintro a _ ⟨rfl, S⟩
 refine wl_pure (l' := [(25, .bool q_2), (24, .bool q_2), (0, v0), (1, v1), (2, v2)]) S tys tys_ok 1 (by kernel_rfl) ?_
 clear S; intro a S
 obtain ⟨q_4, eq_4, h⟩ := bindS h
 refine seg 4 (fun a_ w_ => w = w_ ∧ St 156 a_ [(29, .bool q_4), (0, v0), (1, v1), (2, v2)]) ?_ ?_
 ·by_cases hc : q_2 = false
  ·rw [if_pos hc] at eq_4; rw [hc] at S
   refine wl_pure (l' := [(26, v2), (25, .bool false), (24, .bool false), (0, v0), (1, v1), (2, v2)]) S tys tys_ok 1 (by kernel_rfl) ?_
   clear S; intro a S
   refine w_go S rfl (op_len (K := _) S rfl ty40 rfl rfl rfl R2 ?_)
   clear S; intro a G_5 S
   refine wl_pureK (l' := [(29, .bool (decide ((lenI x2) > 6))), (0, v0), (1, v1), (2, v2)]) S tys tys_ok 2 [29, 0, 1, 2] (by kernel_rfl) ?_
   clear S; intro a S
   obtain rfl := Option.some.inj eq_4
   exact ⟨rfl, S.sub (by exact ⟨rfl, rfl, rfl, rfl, trivial⟩)⟩
  ·rw [if_neg hc] at eq_4; rw [show q_2 = true from (by simpa using hc)] at S
   refine wl_pureK (l' := [(29, .bool true), (0, v0), (1, v1), (2, v2)]) S tys tys_ok 4 [29, 0, 1, 2] (by kernel_rfl) ?_
   clear S; intro a S
   obtain rfl := Option.some.inj eq_4
   exact ⟨rfl, S.sub (by exact ⟨rfl, rfl, rfl, rfl, trivial⟩)⟩
 clear S eq_4; rintro a _ ⟨rfl, S⟩
 refine wpList_nil ?_
 refine then_n ?_
 refine wp_cond_split (S.eval (show ev _ _ = some (.bool q_4) from rfl)) ?_ ?_
 ·intro hc
  rw [if_pos hc] at h
  refine wp_seq ?_
  refine wp_region_lit ?_
  obtain ⟨t_6, et_6, h⟩ := bindS h
  refine w_go S rfl (op_call (vs := []) S rfl cb8 rfl rfl rfl (c8 (Kx K w.heap.size []) n w  et_6) ?_)
  rintro _ w_10 ⟨v_7, rfl, R_8, hb_9⟩; refine ⟨_, rfl, ?_⟩
  replace R_8 := RepV.back R_8 W
  clear S; intro a S
  replace R0 := R0.step hb_9
  replace R1 := R1.step hb_9
  replace R2 := R2.step hb_9
  replace W := W.step hb_9
  obtain rfl := RepV.bool R_8
  refine wl_pureK (l' := [(6, .bool t_6)]) S tys tys_ok 1 [6] (by kernel_rfl) ?_
  clear S; intro a S
  refine wpList_nil ?_
  refine then_n ?_
  refine wp_ret ?_
  refine then_r ?_
  obtain rfl := Option.some.inj h
  exact b_ret1 S rfl rfl ⟨_, rfl, RepV.mkBool, W.below⟩
 ·intro hc
  rw [if_neg (Bool.eq_false_iff.1 hc)] at h
  refine wp_skip ?_
  refine then_n ?_
  replace S := S.sub (l' := [(0, v0), (1, v1), (2, v2)]) (by exact ⟨rfl, rfl, rfl, trivial⟩)
  refine wp_seq ?_
  refine wp_region_lit ?_
  refine wl_pure (l' := [(32, v1), (0, v0), (1, v1), (2, v2)]) S tys tys_ok 1 (by kernel_rfl) ?_
  clear S; intro a S
  refine w_go S rfl (op_build (K := (Kx K w.heap.size [])) (f := gf0) (z0 := (0, ⟨[], some 0⟩)) (x := (0, x1)) (vs := [v1]) S _ rfl ty25 z25 (fun w K => ⟨[.int .u16 0], [.slice .none 0 0], rfl, ⟨rfl, by decide⟩, ⟨.none, 0, 0, rfl, rfl, Nat.le_refl _, by decide, fun k h => Option.some.inj h, .inl rfl⟩⟩) rfl rfl rfl [(1, v1)] rfl ⟨_, R1, rfl, rfl, rfl⟩ ?_)
  clear S; intro a v_11 R_12 S
  obtain ⟨t_13, et_13, h⟩ := bindS h
  refine w_go S rfl (op_call (vs := [v_11]) S rfl cb11 rfl rfl rfl (c11_cut (Kx K w.heap.size []) n w (0, x1) _ R_12 et_13) ?_)
  rintro _ w_19 ⟨v_14, v_15, rfl, R_16, R_17, hb_18⟩; refine ⟨_, rfl, ?_⟩
  have NO_ := newO_of R_16 (Nat.le_refl _) hb_18
  replace R_16 := Ow.backO R_16 W
  replace R_17 := RepV.backO R_17 W
  clear S; intro a S
  replace R0 := R0.newO NO_
  replace R1 := R1.newO NO_
  replace R2 := R2.newO NO_
  replace R_12 := R_12.newO NO_
  replace W := W.newO NO_
  clear NO_
  obtain ⟨rfl, GR_17⟩ := RepV.int R_17
  refine wl_pureK (l' := [(8, .int .i64 t_13.2), (7, (cutV v_14)), (0, v0), (2, v2)]) S tys tys_ok 5 [8, 7, 0, 2] (by kernel_rfl) ?_
  clear S; intro a S
  refine wpList_nil ?_
  refine then_n ?_
  refine wp_seq ?_
  refine wp_seq ?_
  refine wp_region_lit ?_
  refine wl_pure (l' := [(38, .bool (t_13.2 != 0)), (37, .int .i64 t_13.2), (8, .int .i64 t_13.2), (7, (cutV v_14)), (0, v0), (2, v2)]) S tys tys_ok 2 (by kernel_rfl) ?_
  clear S; intro a S
  refine wpList_nil ?_
  refine then_n ?_
  replace S := S.sub (l' := [(38, .bool (t_13.2 != 0)), (7, (cutV v_14)), (0, v0), (2, v2)]) (by exact ⟨rfl, rfl, rfl, rfl, trivial⟩)
  obtain ⟨j_20, ej_20, h⟩ := bindS h
  refine wp_cut_ (fun a_ w_ => ∃ (v_21 : Value), St 156 a_ [(7, (cutV v_21)), (0, v0), (2, v2)] ∧ Wd w w_ [v_21.ownBlock] ∧ RepV (.sl (.int .u8)) w_ (Kx K w.heap.size [v_21.ownBlock]) v0 x0 ∧ RepV (.sl (.arr 2 (.int .u16))) w_ (Kx K w.heap.size [v_21.ownBlock]) v2 x2 ∧ Ow (.int .u8) 5 w_ w.heap.size (Kx K w.heap.size [v_21.ownBlock]) v_21 j_20 .none) ?_ ?_
  ·refine wp_cond_split (S.eval (show ev _ _ = some (.bool (t_13.2 != 0)) from rfl)) ?_ ?_
   ·intro hc
    rw [if_pos hc] at ej_20
    refine wp_region_lit ?_
    refine wl_pure (l' := [(7, .slice .none 0 0), (38, .bool (t_13.2 != 0)), (7, (cutV v_14)), (0, v0), (2, v2)]) S tys tys_ok 1 (by kernel_rfl) ?_
    clear S; intro a S
    refine wpList_nil ?_
    refine then_n ?_
    obtain rfl := Option.some.inj ej_20
    replace R0 := R0.more
    replace R2 := R2.more
    replace W := W.more
    have O_23 : Ow (.int .u8) 5 w_19 w.heap.size (Kx K w.heap.size [.none, v_14.ownBlock]) (.slice .none 0 0) ([] : List (Int)) (some 0) := Ow.nil
    exact ⟨(.slice .none 0 0), S.sub (by exact ⟨rfl, rfl, rfl, trivial⟩), (W.lessAt 1), (R0.lessAt 1), (R2.lessAt 1), (O_23.lessAt 1).forget⟩
   ·intro hc
    rw [if_neg (Bool.eq_false_iff.1 hc)] at ej_20
    refine wp_skip ?_
    refine then_n ?_
    obtain rfl := Option.some.inj ej_20
    exact ⟨v_14, S.sub (by exact ⟨rfl, rfl, rfl, trivial⟩), W, R0, R2, R_16⟩
  clear S W; rintro a w_24 ⟨v_21, S, W, R0, R2, O_22⟩
  refine then_n ?_
  refine wp_seq ?_
  refine wp_seq ?_
  refine wp_region_lit ?_
  refine wl_pure (l' := [(9, .int .i64 0), (7, (cutV v_21)), (0, v0), (2, v2)]) S tys tys_ok 1 (by kernel_rfl) ?_
  clear S; intro a S
  refine wpList_nil ?_
  refine then_n ?_
  obtain ⟨y_35, ey_35, h⟩ := bindS h
  refine wp_cut_ (fun a_ w_ => St 156 a_ [(0, v0), (7, (cutV v_21))] ∧ Wd w w_ [v_21.ownBlock] ∧ RepV (.sl (.int .u8)) w_ (Kx K w.heap.size [v_21.ownBlock]) v0 x0 ∧ Ow (.int .u8) 5 w_ w.heap.size (Kx K w.heap.size [v_21.ownBlock]) v_21 y_35 .none) ?_ ?_
  ·refine wp_block ?_
   refine wp_loop_n (fun m_ a_ w_ => ∃ (c_25 : Int) (c_27 : List (Int)) , St 156 a_ [(9, .int .i64 c_25), (7, (cutV v_21)), (0, v0), (2, v2)] ∧ Wd w w_ [v_21.ownBlock] ∧ InR .i64 c_25 ∧ RepV (.sl (.int .u8)) w_ (Kx K w.heap.size [v_21.ownBlock]) v0 x0 ∧ RepV (.sl (.arr 2 (.int .u16))) w_ (Kx K w.heap.size [v_21.ownBlock]) v2 x2 ∧ Ow (.int .u8) 5 w_ w.heap.size (Kx K w.heap.size [v_21.ownBlock]) v_21 c_27 .none ∧ p4_l1 n x2 m_ c_25 c_27 = some y_35) n ?_ ?_
   ·skip
    exact ⟨0, j_20, ⟨S.sub (by exact ⟨rfl, rfl, rfl, rfl, trivial⟩), W, (by decide), R0, R2, O_22, ey_35⟩⟩
   ·clear S W; rintro m_38 a w_40 ⟨c_25, c_27, S, W, G_26, R0, R2, O_29, hl_39⟩
    cases m_38 with
    | zero => exact absurd hl_39 (by simp [p4_l1])
    | succ m_38 =>
     refine ⟨m_38, rfl, ?_⟩
     rw [p4_l1] at hl_39
     refine wp_seq ?_
     refine wp_seq ?_
     refine wp_region_lit ?_
     refine wl_pure (l' := [(40, v2), (39, .int .i64 c_25), (9, .int .i64 c_25), (7, (cutV v_21)), (0, v0), (2, v2)]) S tys tys_ok 2 (by kernel_rfl) ?_
     clear S; intro a S
     refine w_go S rfl (op_len (K := _) S rfl ty40 rfl rfl rfl R2 ?_)
     clear S; intro a G_41 S
     refine wl_pureK (l' := [(43, .bool (decide (c_25 < (lenI x2)))), (9, .int .i64 c_25), (7, (cutV v_21)), (0, v0), (2, v2)]) S tys tys_ok 2 [43, 9, 7, 0, 2] (by kernel_rfl) ?_
     clear S; intro a S
     obtain ⟨q_42, eq_42, hl_39⟩ := bindS hl_39
     refine seg 4 (fun a_ w_ => w_40 = w_ ∧ St 156 a_ [(47, .bool q_42), (9, .int .i64 c_25), (7, (cutV v_21)), (0, v0), (2, v2)]) ?_ ?_
     ·by_cases hc : (decide (c_25 < (lenI x2))) = true
      ·rw [if_pos hc] at eq_42; rw [hc] at S
       refine wl_pure (l' := [(44, (cutV v_21)), (43, .bool true), (9, .int .i64 c_25), (7, (cutV v_21)), (0, v0), (2, v2)]) S tys tys_ok 1 (by kernel_rfl) ?_
       clear S; intro a S
       refine w_go S rfl (op_len (K := _) S rfl ty28 rfl rfl rfl (Ow.cutRead O_29) ?_)
       clear S; intro a G_43 S
       refine wl_pure (l' := [(47, .bool (decide ((lenI (⟨c_27, some c_27.length⟩ : Sl (Int))) > 0))), (46, .bool (decide ((lenI (⟨c_27, some c_27.length⟩ : Sl (Int))) > 0))), (45, .int .i64 (lenI (⟨c_27, some c_27.length⟩ : Sl (Int)))), (44, (cutV v_21)), (43, .bool true), (9, .int .i64 c_25), (7, (cutV v_21)), (0, v0), (2, v2)]) S tys tys_ok 2 (by kernel_rfl) ?_
       clear S; intro a S
       obtain rfl := Option.some.inj eq_42
       exact ⟨rfl, S.sub (by exact ⟨rfl, rfl, rfl, rfl, rfl, trivial⟩)⟩
      ·rw [if_neg hc] at eq_42; rw [show (decide (c_25 < (lenI x2))) = false from Bool.eq_false_iff.2 hc] at S
       refine wl_pure (l' := [(47, .bool false), (46, undef), (45, undef), (44, undef), (43, .bool false), (9, .int .i64 c_25), (7, (cutV v_21)), (0, v0), (2, v2)]) S tys tys_ok 4 (by kernel_rfl) ?_
       clear S; intro a S
       obtain rfl := Option.some.inj eq_42
       exact ⟨rfl, S.sub (by exact ⟨rfl, rfl, rfl, rfl, rfl, trivial⟩)⟩
     clear S eq_42; rintro a _ ⟨rfl, S⟩
     refine wpList_nil ?_
     refine then_n ?_
     refine wp_cond_split (S.eval (show ev _ _ = some (.bool q_42) from rfl)) ?_ ?_
     ·intro hc
      rw [if_pos hc] at hl_39
      refine wp_skip ?_
      refine then_n ?_
      replace S := S.sub (l' := [(9, .int .i64 c_25), (7, (cutV v_21)), (0, v0), (2, v2)]) (by exact ⟨rfl, rfl, rfl, rfl, trivial⟩)
      refine wp_seq ?_
      refine wp_block ?_
      refine wp_seq ?_
      refine wp_region_lit ?_
      refine wl_pure (l' := [(51, .int .i64 c_25), (50, v2), (9, .int .i64 c_25), (7, (cutV v_21)), (0, v0), (2, v2)]) S tys tys_ok 2 (by kernel_rfl) ?_
      clear S; intro a S
      obtain ⟨y_44, ey_44, hl_39⟩ := bindS hl_39
      refine w_go S rfl (op_indexAddr S rfl ty40 rfl rfl rfl R2 rfl ey_44 ?_)
      clear S; intro a p_45 R_46 H_47 S
      obtain ⟨y_48, ey_48, hl_39⟩ := bindS hl_39
      refine w_go S rfl (op_indexAddr_arr S rfl ty41 rfl rfl rfl R_46 rfl ey_48 ?_)
      clear S; intro a S
      refine w_go S rfl (op_load (t := (.int .u16)) (x := y_48) S rfl ty22 rfl rfl rfl (RepAt.ix R_46 ey_48) ?_)
      clear S; intro a v_49 R_50 S
      obtain ⟨rfl, GR_50⟩ := RepV.int R_50
      refine w_go S rfl (op_conv S .i64 .bool .bool rfl ty22 ty3 rfl rfl rfl (widen GR_50 (by decide)).1 ?_)
      clear S; intro a S
      refine wl_pureK (l' := [(56, (cutV v_21)), (55, .int .i64 y_48), (9, .int .i64 c_25), (7, (cutV v_21)), (0, v0), (2, v2)]) S tys tys_ok 1 [56, 55, 9, 7, 0, 2] (by kernel_rfl) ?_
      clear S; intro a S
      refine w_go S rfl (op_len (K := _) S rfl ty28 rfl rfl rfl (Ow.cutRead O_29) ?_)
      clear S; intro a G_51 S
      obtain ⟨x_52, ex_52, hl_39⟩ := bindS hl_39
      refine w_go S rfl (op_rem S .i64 rfl rfl rfl rfl rfl ex_52 ?_)
      clear S; intro a S
      refine wl_pureK (l' := [(10, .int .i64 x_52), (9, .int .i64 c_25), (7, (cutV v_21)), (0, v0), (2, v2)]) S tys tys_ok 1 [10, 9, 7, 0, 2] (by kernel_rfl) ?_
      clear S; intro a S
      refine wpList_nil ?_
      refine then_n ?_
      refine wp_seq ?_
      refine wp_seq ?_
      refine wp_region_lit ?_
      refine wl_pure (l' := [(60, .int .i64 c_25), (59, v2), (10, .int .i64 x_52), (9, .int .i64 c_25), (7, (cutV v_21)), (0, v0), (2, v2)]) S tys tys_ok 2 (by kernel_rfl) ?_
      clear S; intro a S
      obtain ⟨y_53, ey_53, hl_39⟩ := bindS hl_39
      refine w_go S rfl (op_indexAddr S rfl ty40 rfl rfl rfl R2 rfl ey_53 ?_)
      clear S; intro a p_54 R_55 H_56 S
      obtain ⟨y_57, ey_57, hl_39⟩ := bindS hl_39
      refine w_go S rfl (op_indexAddr_arr S rfl ty41 rfl rfl rfl R_55 rfl ey_57 ?_)
      clear S; intro a S
      refine w_go S rfl (op_load (t := (.int .u16)) (x := y_57) S rfl ty22 rfl rfl rfl (RepAt.ix R_55 ey_57) ?_)
      clear S; intro a v_58 R_59 S
      obtain ⟨rfl, GR_59⟩ := RepV.int R_59
      obtain ⟨x_60, ex_60, hl_39⟩ := bindS hl_39
      refine w_go S rfl (op_rem S .u16 rfl rfl rfl rfl rfl ex_60 ?_)
      clear S; intro a S
      refine wl_pureK (l' := [(65, .bool (x_60 == 0)), (10, .int .i64 x_52), (9, .int .i64 c_25), (7, (cutV v_21)), (0, v0), (2, v2)]) S tys tys_ok 1 [65, 10, 9, 7, 0, 2] (by kernel_rfl) ?_
      clear S; intro a S
      refine wpList_nil ?_
      refine then_n ?_
      obtain ⟨j_61, ej_61, hl_39⟩ := bindS hl_39
      refine wp_cut_ (fun a_ w_ => St 156 a_ [(10, .int .i64 j_61), (9, .int .i64 c_25), (7, (cutV v_21)), (0, v0), (2, v2)] ∧ Wd w w_ [v_21.ownBlock] ∧ InR .i64 j_61 ∧ RepV (.sl (.int .u8)) w_ (Kx K w.heap.size [v_21.ownBlock]) v0 x0 ∧ RepV (.sl (.arr 2 (.int .u16))) w_ (Kx K w.heap.size [v_21.ownBlock]) v2 x2 ∧ Ow (.int .u8) 5 w_ w.heap.size (Kx K w.heap.size [v_21.ownBlock]) v_21 c_27 .none) ?_ ?_
      ·refine wp_cond_split (S.eval (show ev _ _ = some (.bool (x_60 == 0)) from rfl)) ?_ ?_
       ·intro hc
        rw [if_pos hc] at ej_61
        refine wp_region_lit ?_
        refine wl_pure (l' := [(67, .int .i64 c_25), (66, v2), (65, .bool (x_60 == 0)), (10, .int .i64 x_52), (9, .int .i64 c_25), (7, (cutV v_21)), (0, v0), (2, v2)]) S tys tys_ok 2 (by kernel_rfl) ?_
        clear S; intro a S
        obtain ⟨y_63, ey_63, ej_61⟩ := bindS ej_61
        refine w_go S rfl (op_indexAddr S rfl ty40 rfl rfl rfl R2 rfl ey_63 ?_)
        clear S; intro a p_64 R_65 H_66 S
        obtain ⟨y_67, ey_67, ej_61⟩ := bindS ej_61
        refine w_go S rfl (op_indexAddr_arr S rfl ty41 rfl rfl rfl R_65 rfl ey_67 ?_)
        clear S; intro a S
        refine w_go S rfl (op_load (t := (.int .u16)) (x := y_67) S rfl ty22 rfl rfl rfl (RepAt.ix R_65 ey_67) ?_)
        clear S; intro a v_68 R_69 S
        obtain ⟨rfl, GR_69⟩ := RepV.int R_69
        refine w_go S rfl (op_conv S .i64 .bool .bool rfl ty22 ty3 rfl rfl rfl (widen GR_69 (by decide)).1 ?_)
        clear S; intro a S
        obtain ⟨x_70, ex_70, ej_61⟩ := bindS ej_61
        refine w_go S rfl (op_rem S .i64 rfl rfl rfl rfl rfl ex_70 ?_)
        clear S; intro a S
        refine wl_pureK (l' := [(10, .int .i64 x_70), (10, .int .i64 x_52), (9, .int .i64 c_25), (7, (cutV v_21)), (0, v0), (2, v2)]) S tys tys_ok 1 [10, 9, 7, 0, 2] (by kernel_rfl) ?_
        clear S; intro a S
        refine wpList_nil ?_
        refine then_n ?_
        obtain rfl := Option.some.inj ej_61
        exact ⟨S.sub (by exact ⟨rfl, rfl, rfl, rfl, rfl, trivial⟩), W, (inR_rem ex_70), R0, R2, O_29⟩
       ·intro hc
        rw [if_neg (Bool.eq_false_iff.1 hc)] at ej_61
        refine wp_skip ?_
        refine then_n ?_
        obtain rfl := Option.some.inj ej_61
        exact ⟨S.sub (by exact ⟨rfl, rfl, rfl, rfl, rfl, trivial⟩), W, (inR_rem ex_52), R0, R2, O_29⟩
      clear S W; rintro a w_71 ⟨S, W, G_62, R0, R2, O_29⟩
      refine then_n ?_
      refine wp_seq ?_
      refine wp_seq ?_
      refine wp_region_lit ?_
      refine wl_pure (l' := [(74, .int .i64 c_25), (73, v2), (10, .int .i64 j_61), (9, .int .i64 c_25), (7, (cutV v_21)), (0, v0), (2, v2)]) S tys tys_ok 2 (by kernel_rfl) ?_
      clear S; intro a S
      obtain ⟨y_72, ey_72, hl_39⟩ := bindS hl_39
      refine w_go S rfl (op_indexAddr S rfl ty40 rfl rfl rfl R2 rfl ey_72 ?_)
      clear S; intro a p_73 R_74 H_75 S
      obtain ⟨y_76, ey_76, hl_39⟩ := bindS hl_39
      refine w_go S rfl (op_indexAddr_arr S rfl ty41 rfl rfl rfl R_74 rfl ey_76 ?_)
      clear S; intro a S
      refine w_go S rfl (op_load (t := (.int .u16)) (x := y_76) S rfl ty22 rfl rfl rfl (RepAt.ix R_74 ey_76) ?_)
      clear S; intro a v_77 R_78 S
      obtain ⟨rfl, GR_78⟩ := RepV.int R_78
      obtain ⟨x_79, ex_79, hl_39⟩ := bindS hl_39
      refine w_go S rfl (op_rem S .u16 rfl rfl rfl rfl rfl ex_79 ?_)
      clear S; intro a S
      refine wl_pureK (l' := [(79, .bool (x_79 == 1)), (10, .int .i64 j_61), (9, .int .i64 c_25), (7, (cutV v_21)), (0, v0), (2, v2)]) S tys tys_ok 1 [79, 10, 9, 7, 0, 2] (by kernel_rfl) ?_
      clear S; intro a S
      refine wpList_nil ?_
      refine then_n ?_
      obtain ⟨j_80, ej_80, hl_39⟩ := bindS hl_39
      refine wp_cut_ (fun a_ w_ => St 156 a_ [(10, .int .i64 j_80), (9, .int .i64 c_25), (7, (cutV v_21)), (0, v0), (2, v2)] ∧ Wd w w_ [v_21.ownBlock] ∧ InR .i64 j_80 ∧ RepV (.sl (.int .u8)) w_ (Kx K w.heap.size [v_21.ownBlock]) v0 x0 ∧ RepV (.sl (.arr 2 (.int .u16))) w_ (Kx K w.heap.size [v_21.ownBlock]) v2 x2 ∧ Ow (.int .u8) 5 w_ w.heap.size (Kx K w.heap.size [v_21.ownBlock]) v_21 c_27 .none) ?_ ?_
      ·refine wp_cond_split (S.eval (show ev _ _ = some (.bool (x_79 == 1)) from rfl)) ?_ ?_
       ·intro hc
        rw [if_pos hc] at ej_80
        refine wp_region_lit ?_
        refine wl_pure (l' := [(80, (cutV v_21)), (79, .bool (x_79 == 1)), (10, .int .i64 j_61), (9, .int .i64 c_25), (7, (cutV v_21)), (0, v0), (2, v2)]) S tys tys_ok 1 (by kernel_rfl) ?_
        clear S; intro a S
        refine w_go S rfl (op_len (K := _) S rfl ty28 rfl rfl rfl (Ow.cutRead O_29) ?_)
        clear S; intro a G_82 S
        obtain ⟨x_83, ex_83, ej_80⟩ := bindS ej_80
        refine w_go S rfl (op_arith S .i64 ((lenI (⟨c_27, some c_27.length⟩ : Sl (Int))) - 1) rfl (.inr (.inl rfl)) rfl rfl rfl rfl ex_83 ?_)
        clear S; intro a S
        refine wl_pureK (l' := [(84, .int .i64 c_25), (83, v2), (82, .int .i64 x_83), (10, .int .i64 j_61), (9, .int .i64 c_25), (7, (cutV v_21)), (0, v0), (2, v2)]) S tys tys_ok 2 [84, 83, 82, 10, 9, 7, 0, 2] (by kernel_rfl) ?_
        clear S; intro a S
        obtain ⟨y_84, ey_84, ej_80⟩ := bindS ej_80
        refine w_go S rfl (op_indexAddr S rfl ty40 rfl rfl rfl R2 rfl ey_84 ?_)
        clear S; intro a p_85 R_86 H_87 S
        obtain ⟨y_88, ey_88, ej_80⟩ := bindS ej_80
        refine w_go S rfl (op_indexAddr_arr S rfl ty41 rfl rfl rfl R_86 rfl ey_88 ?_)
        clear S; intro a S
        refine w_go S rfl (op_load (t := (.int .u16)) (x := y_88) S rfl ty22 rfl rfl rfl (RepAt.ix R_86 ey_88) ?_)
        clear S; intro a v_89 R_90 S
        obtain ⟨rfl, GR_90⟩ := RepV.int R_90
        obtain ⟨x_91, ex_91, ej_80⟩ := bindS ej_80
        refine w_go S rfl (op_quo S .u16 rfl rfl rfl rfl rfl ex_91 ?_)
        clear S; intro a S
        refine w_go S rfl (op_conv S .i64 .bool .bool rfl ty22 ty3 rfl rfl rfl (widen (inR_quo ex_91) (by decide)).1 ?_)
        clear S; intro a S
        refine wl_pureK (l' := [(90, (cutV v_21)), (89, .int .i64 x_91), (82, .int .i64 x_83), (10, .int .i64 j_61), (9, .int .i64 c_25), (7, (cutV v_21)), (0, v0), (2, v2)]) S tys tys_ok 1 [90, 89, 82, 10, 9, 7, 0, 2] (by kernel_rfl) ?_
        clear S; intro a S
        refine w_go S rfl (op_len (K := _) S rfl ty28 rfl rfl rfl (Ow.cutRead O_29) ?_)
        clear S; intro a G_92 S
        refine w_go S rfl (op_min S rfl rfl rfl rfl rfl ?_)
        clear S; intro a S
        obtain ⟨x_93, ex_93, ej_80⟩ := bindS ej_80
        refine w_go S rfl (op_rem S .i64 rfl rfl rfl rfl rfl ex_93 ?_)
        clear S; intro a S
        obtain ⟨x_94, ex_94, ej_80⟩ := bindS ej_80
        refine w_go S rfl (op_arith S .i64 (x_83 - x_93) rfl (.inr (.inl rfl)) rfl rfl rfl rfl ex_94 ?_)
        clear S; intro a S
        refine wl_pureK (l' := [(10, .int .i64 x_94), (10, .int .i64 j_61), (9, .int .i64 c_25), (7, (cutV v_21)), (0, v0), (2, v2)]) S tys tys_ok 1 [10, 9, 7, 0, 2] (by kernel_rfl) ?_
        clear S; intro a S
        refine wpList_nil ?_
        refine then_n ?_
        obtain rfl := Option.some.inj ej_80
        exact ⟨S.sub (by exact ⟨rfl, rfl, rfl, rfl, rfl, trivial⟩), W, (ckI_some ex_94).2.1, R0, R2, O_29⟩
       ·intro hc
        rw [if_neg (Bool.eq_false_iff.1 hc)] at ej_80
        refine wp_skip ?_
        refine then_n ?_
        obtain rfl := Option.some.inj ej_80
        exact ⟨S.sub (by exact ⟨rfl, rfl, rfl, rfl, rfl, trivial⟩), W, G_62, R0, R2, O_29⟩
      clear S W; rintro a w_95 ⟨S, W, G_81, R0, R2, O_29⟩
      refine then_n ?_
      refine wp_region_lit ?_
      refine wl_pure (l' := [(98, .int .i64 c_25), (97, v2), (96, .int .i64 j_80), (95, (cutV v_21)), (10, .int .i64 j_80), (9, .int .i64 c_25), (7, (cutV v_21)), (0, v0), (2, v2)]) S tys tys_ok 4 (by kernel_rfl) ?_
      clear S; intro a S
      obtain ⟨y_96, ey_96, hl_39⟩ := bindS hl_39
      refine w_go S rfl (op_indexAddr S rfl ty40 rfl rfl rfl R2 rfl ey_96 ?_)
      clear S; intro a p_97 R_98 H_99 S
      obtain ⟨y_100, ey_100, hl_39⟩ := bindS hl_39
      refine w_go S rfl (op_indexAddr_arr S rfl ty41 rfl rfl rfl R_98 rfl ey_100 ?_)
      clear S; intro a S
      refine w_go S rfl (op_load (t := (.int .u16)) (x := y_100) S rfl ty22 rfl rfl rfl (RepAt.ix R_98 ey_100) ?_)
      clear S; intro a v_101 R_102 S
      obtain ⟨rfl, GR_102⟩ := RepV.int R_102
      refine wl_pureK (l' := [(102, .int .u8 (IntKind.wrap .u8 y_100)), (96, .int .i64 j_80), (95, (cutV v_21)), (9, .int .i64 c_25), (7, (cutV v_21)), (0, v0), (2, v2)]) S tys tys_ok 1 [102, 96, 95, 9, 7, 0, 2] (by kernel_rfl) ?_
      clear S; intro a S
      obtain ⟨y_103, ey_103, hl_39⟩ := bindS hl_39
      refine w_go S rfl (op_indexAddr_cut S rfl ty28 rfl rfl rfl O_29 rfl ey_103 ?_)
      clear S; intro a g_104 H_106 R_105 S
      refine w_go S rfl (op_store_own (t' := (.int .u8)) S rfl rfl ty5 rfl rfl rfl O_29 H_106 0 rfl (idx_some ey_103).2.1 Ln.whole ((RepV.mkInt (inR_wrap _ _)) : RepV (.int .u8) w_95 (Kx K w.heap.size [v_21.ownBlock]) _ (IntKind.wrap .u8 y_100)) ?_)
      intro w_107 hw_108 hm_110 O_109
      replace R0 := R0.wrote hw_108 hm_110
      replace R2 := R2.wrote hw_108 hm_110
      replace W := W.wrote hw_108 hm_110
      replace O_109 : Ow (.int .u8) 5 w_107 w.heap.size (Kx K w.heap.size [v_21.ownBlock]) v_21 (c_27.set j_80.toNat (IntKind.wrap .u8 y_100)) .none := O_109
      refine wpList_nil ?_
      refine blk_n ?_
      refine then_n ?_
      replace S := S.sub (l' := [(9, .int .i64 c_25), (7, (cutV v_21)), (0, v0), (2, v2)]) (by exact ⟨rfl, rfl, rfl, rfl, trivial⟩)
      refine wp_region_lit ?_
      refine wl_pure (l' := [(48, .int .i64 c_25), (9, .int .i64 c_25), (7, (cutV v_21)), (0, v0), (2, v2)]) S tys tys_ok 1 (by kernel_rfl) ?_
      clear S; intro a S
      obtain ⟨x_111, ex_111, hl_39⟩ := bindS hl_39
      refine w_go S rfl (op_arith S .i64 (c_25 + 1) rfl (.inl rfl) rfl rfl rfl rfl ex_111 ?_)
      clear S; intro a S
      refine wl_pure (l' := [(9, .int .i64 x_111), (49, .int .i64 x_111), (48, .int .i64 c_25), (9, .int .i64 c_25), (7, (cutV v_21)), (0, v0), (2, v2)]) S tys tys_ok 1 (by kernel_rfl) ?_
      clear S; intro a S
      refine wpList_nil ?_
      refine then_n ?_
      exact ⟨x_111, (c_27.set j_80.toNat (IntKind.wrap .u8 y_100)), ⟨S.sub (by exact ⟨rfl, rfl, rfl, rfl, trivial⟩), W, (ckI_some ex_111).2.1, R0, R2, O_109, hl_39⟩⟩
     ·intro hc
      rw [if_neg (Bool.eq_false_iff.1 hc)] at hl_39
      refine wp_exit ?_
      refine then_x ?_
      refine then_x ?_
      refine blk_hit ?_
      refine then_n ?_
      obtain rfl := Option.some.inj hl_39
      exact ⟨S.sub (by exact ⟨rfl, rfl, trivial⟩), W, R0, O_29⟩
  clear S W; rintro a w_112 ⟨S, W, R0, O_37⟩
  refine then_n ?_
  refine wp_seq ?_
  refine wp_seq ?_
  refine wp_region_lit ?_
  refine wl_pure (l' := [(11, .int .i64 0), (0, v0), (7, (cutV v_21))]) S tys tys_ok 1 (by kernel_rfl) ?_
  clear S; intro a S
  refine wpList_nil ?_
  refine then_n ?_
  obtain ⟨y_123, ey_123, h⟩ := bindS h
  refine wp_cut_ (fun a_ w_ => ∃ s_124 : Unit, y_123 = .inl s_124 ∧ (St 156 a_ [] ∧ Wd w w_ [])) ?_ ?_
  ·refine wp_block ?_
   refine wp_loop_n (fun m_ a_ w_ => ∃ (c_113 : Int) (c_115 : Sl (Int)) , ∃ (v_116 : Value), St 156 a_ [(11, .int .i64 c_113), (0, v0), (7, v_116)] ∧ Wd w w_ [] ∧ InR .i64 c_113 ∧ RepV (.sl (.int .u8)) w_ (Kx K w.heap.size []) v0 x0 ∧ RepV (.sl (.int .u8)) w_ (Kx K w.heap.size []) v_116 c_115 ∧ p4_l2 n x0 m_ c_113 c_115 = some y_123) n ?_ ?_
   ·skip
    have R_127 : RepV (.sl (.int .u8)) w_112 (Kx K w.heap.size []) (cutV v_21) (⟨y_35, some y_35.length⟩ : Sl (Int)) := O_37.cutAt W 0 rfl
    replace R0 : RepV (.sl (.int .u8)) w_112 (Kx K w.heap.size []) v0 x0 := R0.lessAt 0
    replace W : Wd w w_112 [] := W.lessAt 0
    exact ⟨0, (⟨y_35, some y_35.length⟩ : Sl (Int)), ⟨(cutV v_21), S.sub (by exact ⟨rfl, rfl, rfl, trivial⟩), W, (by decide), R0, R_127, ey_123⟩⟩
   ·clear S W; rintro m_125 a w_128 ⟨c_113, c_115, v_116, S, W, G_114, R0, R_117, hl_126⟩
    cases m_125 with
    | zero => exact absurd hl_126 (by simp [p4_l2])
    | succ m_125 =>
     refine ⟨m_125, rfl, ?_⟩
     rw [p4_l2] at hl_126
     refine wp_seq ?_
     refine wp_seq ?_
     refine wp_region_lit ?_
     refine wl_pure (l' := [(105, .bool (decide (c_113 < 2))), (104, .int .i64 c_113), (11, .int .i64 c_113), (0, v0), (7, v_116)]) S tys tys_ok 2 (by kernel_rfl) ?_
     clear S; intro a S
     refine wpList_nil ?_
     refine then_n ?_
     replace S := S.sub (l' := [(105, .bool (decide (c_113 < 2))), (11, .int .i64 c_113), (0, v0), (7, v_116)]) (by exact ⟨rfl, rfl, rfl, rfl, trivial⟩)
     refine wp_cond_split (S.eval (show ev _ _ = some (.bool (decide (c_113 < 2))) from rfl)) ?_ ?_
     ·intro hc
      rw [if_pos hc] at hl_126
      refine wp_skip ?_
      refine then_n ?_
      replace S := S.sub (l' := [(11, .int .i64 c_113), (0, v0), (7, v_116)]) (by exact ⟨rfl, rfl, rfl, trivial⟩)
      refine wp_seq ?_
      refine wp_block ?_
      refine wp_seq ?_
      refine wp_region_lit ?_
      refine wl_pure (l' := [(109, v_116), (108, v0), (11, .int .i64 c_113), (0, v0), (7, v_116)]) S tys tys_ok 2 (by kernel_rfl) ?_
      clear S; intro a S
      refine w_go S rfl (op_buildSlice (K := K) (e := (.sl (.int .u8))) (vs := [v0, v_116]) (xs := [x0, c_115]) S W rfl ty23 rfl rfl (by kernel_rfl) rfl rfl rfl rfl rfl ⟨R0, R_117, trivial⟩ ?_)
      clear S; intro a w_132 v_129 hb_131 R_130 S
      replace R0 := R0.step hb_131
      replace R_117 := R_117.step hb_131
      replace W := W.step hb_131
      refine wl_pure (l' := [(111, .int .i64 c_113), (110, v_129), (109, v_116), (108, v0), (11, .int .i64 c_113), (0, v0), (7, v_116)]) S tys tys_ok 1 (by kernel_rfl) ?_
      clear S; intro a S
      obtain ⟨y_133, ey_133, hl_126⟩ := bindS hl_126
      refine w_go S rfl (op_indexAddr S rfl ty23 rfl rfl rfl R_130 rfl ey_133 ?_)
      clear S; intro a p_134 R_135 H_136 S
      refine w_go S rfl (op_load (t := (.sl (.int .u8))) (x := y_133) S rfl ty28 rfl rfl rfl R_135 ?_)
      clear S; intro a v_137 R_138 S
      refine wl_pureK (l' := [(12, v_137), (11, .int .i64 c_113), (0, v0), (7, v_116)]) S tys tys_ok 1 [12, 11, 0, 7] (by kernel_rfl) ?_
      clear S; intro a S
      refine wpList_nil ?_
      refine then_n ?_
      refine wp_seq ?_
      refine wp_region_lit ?_
      refine wl_pure (l' := [(115, v_137), (12, v_137), (11, .int .i64 c_113), (0, v0), (7, v_116)]) S tys tys_ok 1 (by kernel_rfl) ?_
      clear S; intro a S
      obtain ⟨t_139, et_139, hl_126⟩ := bindS hl_126
      refine w_go S rfl (op_call (vs := [v_137]) S rfl cb15 rfl rfl rfl (c15 (Kx K w.heap.size []) n w_132 y_133 _ R_138 et_139) ?_)
      rintro _ w_145 ⟨v_140, v_141, rfl, R_142, R_143, hb_144⟩; refine ⟨_, rfl, ?_⟩
      have NO_ := newO_of R_142 (Nat.le_refl _) hb_144
      replace R_142 := Ow.backO R_142 W
      replace R_143 := RepV.backO R_143 W
      clear S; intro a S
      replace R0 := R0.newO NO_
      replace R_117 := R_117.newO NO_
      replace R_138 := R_138.newO NO_
      replace W := W.newO NO_
      clear NO_
      obtain ⟨rfl, GR_143⟩ := RepV.int R_143
      refine wl_pureK (l' := [(14, .int .i64 t_139.2), (13, v_140), (12, v_137), (11, .int .i64 c_113), (0, v0), (7, v_116)]) S tys tys_ok 5 [14, 13, 12, 11, 0, 7] (by kernel_rfl) ?_
      clear S; intro a S
      refine wpList_nil ?_
      refine then_n ?_
      refine wp_seq ?_
      refine wp_region_lit ?_
      refine wl_pure (l' := [(120, v_137), (14, .int .i64 t_139.2), (13, v_140), (12, v_137), (11, .int .i64 c_113), (0, v0), (7, v_116)]) S tys tys_ok 1 (by kernel_rfl) ?_
      clear S; intro a S
      obtain ⟨t_146, et_146, hl_126⟩ := bindS hl_126
      refine w_go S rfl (op_call (vs := [v_137]) S rfl cb12 rfl rfl rfl (c12 (Kx K w.heap.size [v_140.ownBlock]) n w_145 y_133 _ R_138 et_146) ?_)
      rintro _ w_152 ⟨v_147, v_148, rfl, R_149, R_150, hb_151⟩; refine ⟨_, rfl, ?_⟩
      replace R_149 := RepV.back R_149 W
      replace R_150 := RepV.back R_150 W
      clear S; intro a S
      replace R0 := R0.step hb_151
      replace R_117 := R_117.step hb_151
      replace R_138 := R_138.step hb_151
      replace R_142 := R_142.step hb_151
      replace W := W.step hb_151
      obtain ⟨rfl, GR_150⟩ := RepV.int R_150
      refine wl_pureK (l' := [(123, .int .i64 t_146.2), (122, v_147), (14, .int .i64 t_139.2), (13, v_140), (12, v_137), (11, .int .i64 c_113), (0, v0), (7, v_116)]) S tys tys_ok 3 [123, 122, 14, 13, 12, 11, 0, 7] (by kernel_rfl) ?_
      clear S; intro a S
      refine w_go S rfl (op_alloc (K := K) (n := w.heap.size) (L := [v_140.ownBlock]) (t := gt0) (y := (0, ⟨[], some 0⟩)) S rfl rfl rfl _ z25 (fun w K => ⟨[.int .u16 0], [.slice .none 0 0], rfl, ⟨rfl, by decide⟩, ⟨.none, 0, 0, rfl, rfl, Nat.le_refl _, by decide, fun k h => Option.some.inj h, .inl rfl⟩⟩) ?_)
      clear S; intro a w_155 b_153 hb_156 B_154 S
      replace R0 := R0.box hb_156
      replace R_117 := R_117.box hb_156
      replace R_138 := R_138.box hb_156
      replace R_149 := R_149.box hb_156
      replace R_142 := R_142.box hb_156
      replace W := W.box hb_156
      refine w_go S rfl (op_store (t' := gt0) S rfl rfl ty25 rfl rfl rfl B_154 (by simp) Ln.whole R_149 ?_)
      intro w_157 hw_158 B_
      replace R0 := R0.wrote hw_158 (by simp)
      replace R_117 := R_117.wrote hw_158 (by simp)
      replace R_138 := R_138.wrote hw_158 (by simp)
      replace R_149 := R_149.wrote hw_158 (by simp)
      replace R_142 := R_142.wrote hw_158 (by simp) (W.one (p := 1) (q := 0) (by decide) rfl rfl)
      replace W := W.wrote hw_158 (by simp)
      replace B_154 : Bx gt0 25 w_157 (Kx K w.heap.size [some b_153, v_140.ownBlock]) b_153 t_146.1 := B_; clear B_
      refine wl_pure (l' := [(16, .int .i64 t_146.2), (15, pB b_153), (123, .int .i64 t_146.2), (122, v_147), (14, .int .i64 t_139.2), (13, v_140), (12, v_137), (11, .int .i64 c_113), (0, v0), (7, v_116)]) S tys tys_ok 1 (by kernel_rfl) ?_
      clear S; intro a S
      refine wpList_nil ?_
      refine then_n ?_
      replace S := S.sub (l' := [(16, .int .i64 t_146.2), (15, pB b_153), (14, .int .i64 t_139.2), (13, v_140), (12, v_137), (11, .int .i64 c_113), (0, v0), (7, v_116)]) (by exact ⟨rfl, rfl, rfl, rfl, rfl, rfl, rfl, rfl, trivial⟩)
      refine wp_seq ?_
      obtain ⟨q_159, eq_159, hl_126⟩ := bindS hl_126
      obtain ⟨t_163, HG_160⟩ : ∃ (t_163 : (Bool)) , ((t_139.2 != t_146.2) = false → (p13 n t_146.1.2 (⟨t_139.1.xs, t_139.1.cap⟩ : Sl (Sl (Int)))) = some t_163 ∧ (!t_163) = q_159) ∧ (¬ (t_139.2 != t_146.2) = false → true = q_159) := by
       by_cases hc : (t_139.2 != t_146.2) = false
       ·rw [if_pos hc] at eq_159
        obtain ⟨t_163, et_163, eq_159⟩ := bindS eq_159
        exact ⟨t_163, ⟨fun _ => ⟨et_163, Option.some.inj eq_159⟩, fun k_ => absurd hc k_⟩⟩
       ·rw [if_neg hc] at eq_159
        exact ⟨default, ⟨fun k_ => absurd k_ hc, fun _ => Option.some.inj eq_159⟩⟩
      obtain ⟨q_168, eq_168, hl_126⟩ := bindS hl_126
      obtain ⟨q_170, HG_169⟩ : ∃ (q_170 : Bool) , (q_159 = false → (if (t_139.2 != 0) = true then some (t_146.1.1 != 0) else some false) = some q_170 ∧ q_170 = q_168) ∧ (¬ q_159 = false → true = q_168) := by
       by_cases hc : q_159 = false
       ·rw [if_pos hc] at eq_168
        obtain ⟨q_170, eq_170, eq_168⟩ := bindS eq_168
        exact ⟨q_170, ⟨fun _ => ⟨eq_170, Option.some.inj eq_168⟩, fun k_ => absurd hc k_⟩⟩
       ·rw [if_neg hc] at eq_168
        exact ⟨default, ⟨fun k_ => absurd k_ hc, fun _ => Option.some.inj eq_168⟩⟩
      have HG_171 : (q_159 = false → ((t_139.2 != 0) = true → (t_146.1.1 != 0) = q_170) ∧ (¬ (t_139.2 != 0) = true → false = q_170)) := by
       by_cases ho1 : q_159 = false
       ·skip
        have eq_170 := (HG_169.1 ho1).1
        by_cases hc : (t_139.2 != 0) = true
        ·rw [if_pos hc] at eq_170
         exact fun _ => ⟨fun _ => Option.some.inj eq_170, fun k_ => absurd hc k_⟩
        ·rw [if_neg hc] at eq_170
         exact fun _ => ⟨fun k_ => absurd k_ hc, fun _ => Option.some.inj eq_170⟩
       ·exact fun k_ => absurd k_ ho1
      obtain ⟨q_174, eq_174, hl_126⟩ := bindS hl_126
      obtain ⟨q_176, HG_175⟩ : ∃ (q_176 : Bool) , (q_168 = false → (if (t_139.2 == 0) = true then (p14 n y_133 6).bind fun t_180 => some (t_146.1.1 != t_180) else some false) = some q_176 ∧ q_176 = q_174) ∧ (¬ q_168 = false → true = q_174) := by
       by_cases hc : q_168 = false
       ·rw [if_pos hc] at eq_174
        obtain ⟨q_176, eq_176, eq_174⟩ := bindS eq_174
        exact ⟨q_176, ⟨fun _ => ⟨eq_176, Option.some.inj eq_174⟩, fun k_ => absurd hc k_⟩⟩
       ·rw [if_neg hc] at eq_174
        exact ⟨default, ⟨fun k_ => absurd k_ hc, fun _ => Option.some.inj eq_174⟩⟩
      obtain ⟨t_180, HG_177⟩ : ∃ (t_180 : (Int)) , (q_168 = false → ((t_139.2 == 0) = true → (p14 n y_133 6) = some t_180 ∧ (t_146.1.1 != t_180) = q_176) ∧ (¬ (t_139.2 == 0) = true → false = q_176)) := by
       by_cases ho3 : q_168 = false
       ·skip
        have eq_176 := (HG_175.1 ho3).1
        by_cases hc : (t_139.2 == 0) = true
        ·rw [if_pos hc] at eq_176
         obtain ⟨t_180, et_180, eq_176⟩ := bindS eq_176
         exact ⟨t_180, fun _ => ⟨fun _ => ⟨et_180, Option.some.inj eq_176⟩, fun k_ => absurd hc k_⟩⟩
        ·rw [if_neg hc] at eq_176
         exact ⟨default, fun _ => ⟨fun k_ => absurd k_ hc, fun _ => Option.some.inj eq_176⟩⟩
       ·exact ⟨default, fun k_ => absurd k_ ho3⟩
      have hR : Rel (Kx K w.heap.size [some b_153, v_140.ownBlock]) Bl := Bl.rel _
      refine wp_region_all hR [isI .i64 t_139.2, isI .i64 t_146.2, eqv (.bool (t_139.2 != t_146.2)), eqv (.bool (t_139.2 != t_146.2)), cndF (t_139.2 != t_146.2) false (eqv (.pointer (some ((⟨b_153, 0, .none⟩ : Addr).add (coff gf0 1))))), cndF (t_139.2 != t_146.2) false (isRep (.sl (.sl (.int .u8))) (Kx K w.heap.size [some b_153, v_140.ownBlock]) t_146.1.2), cndF (t_139.2 != t_146.2) false (eqv (v_140)), cndF (t_139.2 != t_146.2) false (eqv (.bool t_163)), cndF (t_139.2 != t_146.2) false (eqv (.bool (!t_163))), eqv (.bool q_159), eqv (.bool q_159), cndF q_159 false (isI .i64 t_139.2), cndF q_159 false (eqv (.bool (t_139.2 != 0))), cndF q_159 false (eqv (.bool (t_139.2 != 0))), cndF q_159 false (cndF (t_139.2 != 0) true (eqv (.pointer (some ((⟨b_153, 0, .none⟩ : Addr).add (coff gf0 0)))))), cndF q_159 false (cndF (t_139.2 != 0) true (isI .u16 t_146.1.1)), cndF q_159 false (cndF (t_139.2 != 0) true (eqv (.bool (t_146.1.1 != 0)))), cndF q_159 false (eqv (.bool q_170)), eqv (.bool q_168), eqv (.bool q_168), cndF q_168 false (isI .i64 t_139.2), cndF q_168 false (eqv (.bool (t_139.2 == 0))), cndF q_168 false (eqv (.bool (t_139.2 == 0))), cndF q_168 false (cndF (t_139.2 == 0) true (eqv (.pointer (some ((⟨b_153, 0, .none⟩ : Addr).add (coff gf0 0)))))), cndF q_168 false (cndF (t_139.2 == 0) true (isI .u16 t_146.1.1)), cndF q_168 false (cndF (t_139.2 == 0) true (isI .i64 t_146.1.1)), cndF q_168 false (cndF (t_139.2 == 0) true (isRep (.sl (.int .u8)) (Kx K w.heap.size [some b_153, v_140.ownBlock]) y_133)), cndF q_168 false (cndF (t_139.2 == 0) true (isI .i64 t_180)), cndF q_168 false (cndF (t_139.2 == 0) true (eqv (.bool (t_146.1.1 != t_180)))), cndF q_168 false (eqv (.bool q_176)), eqv (.bool q_174)] [[], [], [(0, 124), (1, 125)], [(2, 126)], [(3, 127)], [(4, 128), (3, 127)], [(3, 127)], [(5, 129), (6, 130), (3, 127)], [(7, 131), (3, 127)], [(3, 127), (8, 132)], [(9, 133)], [(10, 134)], [(11, 135), (10, 134)], [(12, 136), (10, 134)], [(13, 137)], [(14, 138), (13, 137)], [(15, 139), (13, 137)], [(13, 137), (16, 140), (10, 134)], [(10, 134), (17, 141)], [(18, 142)], [(19, 143)], [(20, 144), (19, 143)], [(21, 145), (19, 143)], [(22, 146)], [(23, 147), (22, 146)], [(24, 148), (22, 146)], [(22, 146)], [(26, 150), (22, 146)], [(25, 149), (27, 151), (22, 146)], [(22, 146), (28, 152), (19, 143)], [(19, 143), (29, 153)]] (by kernel_rfl) (by rw [S.size]; kernel_rfl) (by kernel_rfl) (by kernel_rfl) rfl ⟨stab_I, stab_I, (stab_eqv _), (stab_eqv _), (stab_cnd (stab_eqv _)), (stab_cnd (stab_rep hR)), (stab_cnd (stab_eqv _)), (stab_cnd (stab_eqv _)), (stab_cnd (stab_eqv _)), (stab_eqv _), (stab_eqv _), (stab_cnd stab_I), (stab_cnd (stab_eqv _)), (stab_cnd (stab_eqv _)), (stab_cnd (stab_cnd (stab_eqv _))), (stab_cnd (stab_cnd stab_I)), (stab_cnd (stab_cnd (stab_eqv _))), (stab_cnd (stab_eqv _)), (stab_eqv _), (stab_eqv _), (stab_cnd stab_I), (stab_cnd (stab_eqv _)), (stab_cnd (stab_eqv _)), (stab_cnd (stab_cnd (stab_eqv _))), (stab_cnd (stab_cnd stab_I)), (stab_cnd (stab_cnd stab_I)), (stab_cnd (stab_cnd (stab_rep hR))), (stab_cnd (stab_cnd stab_I)), (stab_cnd (stab_cnd (stab_eqv _))), (stab_cnd (stab_eqv _)), (stab_eqv _), trivial⟩ ?_ ?_
      ·
       refine RunAll.cons (isI .i64 t_139.2) [] rfl rfl ?_ ?_
       ·intro W_ hW
        have S1 := S
        exact RPost.one (v := .int .i64 t_139.2) S1 tys tys_ok rfl (by kernel_rfl) S.defers ⟨rfl, GR_143⟩ (Below.refl _ _)
       refine RunAll.cons (isI .i64 t_146.2) [] rfl rfl ?_ ?_
       ·intro W_ hW
        have S1 := S
        exact RPost.one (v := .int .i64 t_146.2) S1 tys tys_ok rfl (by kernel_rfl) S.defers ⟨rfl, GR_150⟩ (Below.refl _ _)
       refine RunAll.cons (eqv (.bool (t_139.2 != t_146.2))) [(isI .i64 t_139.2, 124), (isI .i64 t_146.2, 125)] rfl rfl ?_ ?_
       ·intro W_ hW
        have S1 := S
        rintro _ ⟨rfl, hF_185⟩
        replace S1 := S1.put (by decide : 124 < 156) (.int .i64 t_139.2)
        rintro _ ⟨rfl, hF_187⟩
        replace S1 := S1.put (by decide : 125 < 156) (.int .i64 t_146.2)
        exact RPost.one (v := .bool (t_139.2 != t_146.2)) S1 tys tys_ok rfl (by kernel_rfl) S.defers rfl (Below.refl _ _)
       refine RunAll.cons (eqv (.bool (t_139.2 != t_146.2))) [(eqv (.bool (t_139.2 != t_146.2)), 126)] rfl rfl ?_ ?_
       ·intro W_ hW
        have S1 := S
        intro v_190 hF_189; obtain rfl : .bool (t_139.2 != t_146.2) = v_190 := Eq.symm hF_189
        replace S1 := S1.put (by decide : 126 < 156) (.bool (t_139.2 != t_146.2))
        exact RPost.one (v := .bool (t_139.2 != t_146.2)) S1 tys tys_ok rfl (by kernel_rfl) S.defers rfl (Below.refl _ _)
       refine RunAll.cons (cndF (t_139.2 != t_146.2) false (eqv (.pointer (some ((⟨b_153, 0, .none⟩ : Addr).add (coff gf0 1)))))) [(eqv (.bool (t_139.2 != t_146.2)), 127)] rfl rfl ?_ ?_
       ·intro W_ hW
        by_cases hc0 : (t_139.2 != t_146.2) = false
        ·have hl0 : (t_139.2 != t_146.2) = false := hc0
         have S1 := S
         intro v_192 hF_191; obtain rfl : .bool (t_139.2 != t_146.2) = v_192 := Eq.symm hF_191
         replace S1 := S1.put (by decide : 127 < 156) (.bool (t_139.2 != t_146.2))
         refine fill_nil S1 ?_; clear S1; intro a_ S1
         replace B_154 := B_154.step hW
         rw [show (t_139.2 != t_146.2) = false from hl0] at S1
         exact RPost.one (v := .pointer (some ((⟨b_153, 0, .none⟩ : Addr).add (coff gf0 1)))) S1 tys tys_ok rfl (by kernel_rfl) S.defers ⟨fun _ => rfl, fun k_ => absurd hc0 k_⟩ (Below.refl _ _)
        ·have hl0 : (t_139.2 != t_146.2) = true := (by simpa using hc0)
         have S1 := S
         intro v_194 hF_193; obtain rfl : .bool (t_139.2 != t_146.2) = v_194 := Eq.symm hF_193
         replace S1 := S1.put (by decide : 127 < 156) (.bool (t_139.2 != t_146.2))
         refine fill_nil S1 ?_; clear S1; intro a_ S1
         rw [show (t_139.2 != t_146.2) = true from hl0] at S1
         exact RPost.one (v := undef) S1 tys tys_ok rfl (by kernel_rfl) S.defers ⟨fun k_ => absurd k_ hc0, fun _ => rfl⟩ (Below.refl _ _)
       refine RunAll.cons (cndF (t_139.2 != t_146.2) false (isRep (.sl (.sl (.int .u8))) (Kx K w.heap.size [some b_153, v_140.ownBlock]) t_146.1.2)) [(cndF (t_139.2 != t_146.2) false (eqv (.pointer (some ((⟨b_153, 0, .none⟩ : Addr).add (coff gf0 1))))), 128), (eqv (.bool (t_139.2 != t_146.2)), 127)] rfl rfl ?_ ?_
       ·intro W_ hW
        by_cases hc0 : (t_139.2 != t_146.2) = false
        ·have hl0 : (t_139.2 != t_146.2) = false := hc0
         have S1 := S
         intro v_195 hF_196
         replace hF_196 := cndF.pos hF_196 hc0
         revert hF_196
         revert v_195
         intro v_198 hF_197; obtain rfl : .pointer (some ((⟨b_153, 0, .none⟩ : Addr).add (coff gf0 1))) = v_198 := Eq.symm hF_197
         replace S1 := S1.put (by decide : 128 < 156) (.pointer (some ((⟨b_153, 0, .none⟩ : Addr).add (coff gf0 1))))
         intro v_200 hF_199; obtain rfl : .bool (t_139.2 != t_146.2) = v_200 := Eq.symm hF_199
         replace S1 := S1.put (by decide : 127 < 156) (.bool (t_139.2 != t_146.2))
         refine fill_nil S1 ?_; clear S1; intro a_ S1
         replace B_154 := B_154.step hW
         rw [show (t_139.2 != t_146.2) = false from hl0] at S1
         have S0 := S.defers; replace S := S1; clear S1
         obtain ⟨et_163, _⟩ := (HG_160).1 hc0
         refine w_go S rfl (op_load (t := (.sl (.sl (.int .u8)))) (x := t_146.1.2) S rfl ty23 rfl rfl rfl (RepAt.add 1 (RepAt.st (t := gf0) B_154.at_)) ?_)
         clear S; intro a v_201 R_202 S
         refine wpList_nil ?_
         exact RPost.mk_ S rfl S0 ⟨fun _ => R_202, fun k_ => absurd hc0 k_⟩ (Below.refl _ _)
        ·have hl0 : (t_139.2 != t_146.2) = true := (by simpa using hc0)
         have S1 := S
         intro v_203 hF_204
         obtain rfl := cndF.neg hF_204 hc0
         replace S1 := S1.put (by decide : 128 < 156) (undef)
         intro v_206 hF_205; obtain rfl : .bool (t_139.2 != t_146.2) = v_206 := Eq.symm hF_205
         replace S1 := S1.put (by decide : 127 < 156) (.bool (t_139.2 != t_146.2))
         refine fill_nil S1 ?_; clear S1; intro a_ S1
         rw [show (t_139.2 != t_146.2) = true from hl0] at S1
         exact RPost.one (v := undef) S1 tys tys_ok rfl (by kernel_rfl) S.defers ⟨fun k_ => absurd k_ hc0, fun _ => rfl⟩ (Below.refl _ _)
       refine RunAll.cons (cndF (t_139.2 != t_146.2) false (eqv (v_140))) [(eqv (.bool (t_139.2 != t_146.2)), 127)] rfl rfl ?_ ?_
       ·intro W_ hW
        by_cases hc0 : (t_139.2 != t_146.2) = false
        ·have hl0 : (t_139.2 != t_146.2) = false := hc0
         have S1 := S
         intro v_208 hF_207; obtain rfl : .bool (t_139.2 != t_146.2) = v_208 := Eq.symm hF_207
         replace S1 := S1.put (by decide : 127 < 156) (.bool (t_139.2 != t_146.2))
         refine fill_nil S1 ?_; clear S1; intro a_ S1
         replace R_142 := R_142.step hW
         rw [show (t_139.2 != t_146.2) = false from hl0] at S1
         exact RPost.one (v := v_140) S1 tys tys_ok rfl (by kernel_rfl) S.defers ⟨fun _ => rfl, fun k_ => absurd hc0 k_⟩ (Below.refl _ _)
        ·have hl0 : (t_139.2 != t_146.2) = true := (by simpa using hc0)
         have S1 := S
         intro v_210 hF_209; obtain rfl : .bool (t_139.2 != t_146.2) = v_210 := Eq.symm hF_209
         replace S1 := S1.put (by decide : 127 < 156) (.bool (t_139.2 != t_146.2))
         refine fill_nil S1 ?_; clear S1; intro a_ S1
         rw [show (t_139.2 != t_146.2) = true from hl0] at S1
         exact RPost.one (v := undef) S1 tys tys_ok rfl (by kernel_rfl) S.defers ⟨fun k_ => absurd k_ hc0, fun _ => rfl⟩ (Below.refl _ _)
       refine RunAll.cons (cndF (t_139.2 != t_146.2) false (eqv (.bool t_163))) [(cndF (t_139.2 != t_146.2) false (isRep (.sl (.sl (.int .u8))) (Kx K w.heap.size [some b_153, v_140.ownBlock]) t_146.1.2), 129), (cndF (t_139.2 != t_146.2) false (eqv (v_140)), 130), (eqv (.bool (t_139.2 != t_146.2)), 127)] rfl rfl ?_ ?_
       ·intro W_ hW
        by_cases hc0 : (t_139.2 != t_146.2) = false
        ·have hl0 : (t_139.2 != t_146.2) = false := hc0
         have S1 := S
         intro v_211 hF_212
         replace hF_212 := cndF.pos hF_212 hc0
         revert hF_212
         revert v_211
         intro v_214 hF_213; replace hF_213 : RepV _ _ _ _ _ := hF_213
         replace S1 := S1.put (by decide : 129 < 156) (v_214)
         intro v_215 hF_216
         replace hF_216 := cndF.pos hF_216 hc0
         revert hF_216
         revert v_215
         intro v_218 hF_217; obtain rfl : v_140 = v_218 := Eq.symm hF_217
         replace S1 := S1.put (by decide : 130 < 156) (v_140)
         intro v_220 hF_219; obtain rfl : .bool (t_139.2 != t_146.2) = v_220 := Eq.symm hF_219
         replace S1 := S1.put (by decide : 127 < 156) (.bool (t_139.2 != t_146.2))
         refine fill_nil S1 ?_; clear S1; intro a_ S1
         replace R_142 := R_142.step hW
         replace W := W.step hW
         rw [show (t_139.2 != t_146.2) = false from hl0] at S1
         have S0 := S.defers; replace S := S1; clear S1
         obtain ⟨et_163, _⟩ := (HG_160).1 hc0
         refine w_go S rfl (op_call (vs := [v_214, v_140]) S rfl cb13 rfl rfl rfl (c13 (Kx K w.heap.size []) n W_ t_146.1.2 _ hF_213.out (⟨t_139.1.xs, t_139.1.cap⟩ : Sl (Sl (Int))) _ R_142.read et_163) ?_)
         rintro _ w_224 ⟨v_221, rfl, R_222, hb_223⟩; refine ⟨_, rfl, ?_⟩
         clear S; intro a S
         obtain rfl := RepV.bool R_222
         refine wpList_nil ?_
         exact RPost.mk_ S rfl S0 ⟨fun _ => rfl, fun k_ => absurd hc0 k_⟩ (hb_223)
        ·have hl0 : (t_139.2 != t_146.2) = true := (by simpa using hc0)
         have S1 := S
         intro v_225 hF_226
         obtain rfl := cndF.neg hF_226 hc0
         replace S1 := S1.put (by decide : 129 < 156) (undef)
         intro v_227 hF_228
         obtain rfl := cndF.neg hF_228 hc0
         replace S1 := S1.put (by decide : 130 < 156) (undef)
         intro v_230 hF_229; obtain rfl : .bool (t_139.2 != t_146.2) = v_230 := Eq.symm hF_229
         replace S1 := S1.put (by decide : 127 < 156) (.bool (t_139.2 != t_146.2))
         refine fill_nil S1 ?_; clear S1; intro a_ S1
         rw [show (t_139.2 != t_146.2) = true from hl0] at S1
         exact RPost.one (v := undef) S1 tys tys_ok rfl (by kernel_rfl) S.defers ⟨fun k_ => absurd k_ hc0, fun _ => rfl⟩ (Below.refl _ _)
       refine RunAll.cons (cndF (t_139.2 != t_146.2) false (eqv (.bool (!t_163)))) [(cndF (t_139.2 != t_146.2) false (eqv (.bool t_163)), 131), (eqv (.bool (t_139.2 != t_146.2)), 127)] rfl rfl ?_ ?_
       ·intro W_ hW
        by_cases hc0 : (t_139.2 != t_146.2) = false
        ·have hl0 : (t_139.2 != t_146.2) = false := hc0
         have S1 := S
         intro v_231 hF_232
         replace hF_232 := cndF.pos hF_232 hc0
         revert hF_232
         revert v_231
         intro v_234 hF_233; obtain rfl : .bool t_163 = v_234 := Eq.symm hF_233
         replace S1 := S1.put (by decide : 131 < 156) (.bool t_163)
         intro v_236 hF_235; obtain rfl : .bool (t_139.2 != t_146.2) = v_236 := Eq.symm hF_235
         replace S1 := S1.put (by decide : 127 < 156) (.bool (t_139.2 != t_146.2))
         refine fill_nil S1 ?_; clear S1; intro a_ S1
         rw [show (t_139.2 != t_146.2) = false from hl0] at S1
         exact RPost.one (v := .bool (!t_163)) S1 tys tys_ok rfl (by kernel_rfl) S.defers ⟨fun _ => rfl, fun k_ => absurd hc0 k_⟩ (Below.refl _ _)
        ·have hl0 : (t_139.2 != t_146.2) = true := (by simpa using hc0)
         have S1 := S
         intro v_237 hF_238
         obtain rfl := cndF.neg hF_238 hc0
         replace S1 := S1.put (by decide : 131 < 156) (undef)
         intro v_240 hF_239; obtain rfl : .bool (t_139.2 != t_146.2) = v_240 := Eq.symm hF_239
         replace S1 := S1.put (by decide : 127 < 156) (.bool (t_139.2 != t_146.2))
         refine fill_nil S1 ?_; clear S1; intro a_ S1
         rw [show (t_139.2 != t_146.2) = true from hl0] at S1
         exact RPost.one (v := undef) S1 tys tys_ok rfl (by kernel_rfl) S.defers ⟨fun k_ => absurd k_ hc0, fun _ => rfl⟩ (Below.refl _ _)
       refine RunAll.cons (eqv (.bool q_159)) [(eqv (.bool (t_139.2 != t_146.2)), 127), (cndF (t_139.2 != t_146.2) false (eqv (.bool (!t_163))), 132)] rfl rfl ?_ ?_
       ·intro W_ hW
        by_cases hc0 : (t_139.2 != t_146.2) = false
        ·have hl0 : (t_139.2 != t_146.2) = false := hc0
         have S1 := S
         intro v_242 hF_241; obtain rfl : .bool (t_139.2 != t_146.2) = v_242 := Eq.symm hF_241
         replace S1 := S1.put (by decide : 127 < 156) (.bool (t_139.2 != t_146.2))
         intro v_243 hF_244
         replace hF_244 := cndF.pos hF_244 hc0
         revert hF_244
         revert v_243
         intro v_246 hF_245; obtain rfl : .bool (!t_163) = v_246 := Eq.symm hF_245
         replace S1 := S1.put (by decide : 132 < 156) (.bool (!t_163))
         refine fill_nil S1 ?_; clear S1; intro a_ S1
         rw [show (t_139.2 != t_146.2) = false from hl0] at S1
         exact RPost.one (v := .bool (!t_163)) S1 tys tys_ok rfl (by kernel_rfl) S.defers (congrArg Value.bool ((HG_160).1 hc0).2) (Below.refl _ _)
        ·have hl0 : (t_139.2 != t_146.2) = true := (by simpa using hc0)
         have S1 := S
         intro v_248 hF_247; obtain rfl : .bool (t_139.2 != t_146.2) = v_248 := Eq.symm hF_247
         replace S1 := S1.put (by decide : 127 < 156) (.bool (t_139.2 != t_146.2))
         intro v_249 hF_250
         obtain rfl := cndF.neg hF_250 hc0
         replace S1 := S1.put (by decide : 132 < 156) (undef)
         refine fill_nil S1 ?_; clear S1; intro a_ S1
         rw [show (t_139.2 != t_146.2) = true from hl0] at S1
         exact RPost.one (v := .bool true) S1 tys tys_ok rfl (by kernel_rfl) S.defers (congrArg Value.bool ((HG_160).2 hc0)) (Below.refl _ _)
       refine RunAll.cons (eqv (.bool q_159)) [(eqv (.bool q_159), 133)] rfl rfl ?_ ?_
       ·intro W_ hW
        have S1 := S
        intro v_252 hF_251; obtain rfl : .bool q_159 = v_252 := Eq.symm hF_251
        replace S1 := S1.put (by decide : 133 < 156) (.bool q_159)
        exact RPost.one (v := .bool q_159) S1 tys tys_ok rfl (by kernel_rfl) S.defers rfl (Below.refl _ _)
       refine RunAll.cons (cndF q_159 false (isI .i64 t_139.2)) [(eqv (.bool q_159), 134)] rfl rfl ?_ ?_
       ·intro W_ hW
        by_cases hc1 : q_159 = false
        ·have hl1 : q_159 = false := hc1
         have S1 := S
         intro v_254 hF_253; obtain rfl : .bool q_159 = v_254 := Eq.symm hF_253
         replace S1 := S1.put (by decide : 134 < 156) (.bool q_159)
         refine fill_nil S1 ?_; clear S1; intro a_ S1
         rw [show q_159 = false from hl1] at S1
         exact RPost.one (v := .int .i64 t_139.2) S1 tys tys_ok rfl (by kernel_rfl) S.defers ⟨fun _ => ⟨rfl, GR_143⟩, fun k_ => absurd hc1 k_⟩ (Below.refl _ _)
        ·have hl1 : q_159 = true := (by simpa using hc1)
         have S1 := S
         intro v_256 hF_255; obtain rfl : .bool q_159 = v_256 := Eq.symm hF_255
         replace S1 := S1.put (by decide : 134 < 156) (.bool q_159)
         refine fill_nil S1 ?_; clear S1; intro a_ S1
         rw [show q_159 = true from hl1] at S1
         exact RPost.one (v := undef) S1 tys tys_ok rfl (by kernel_rfl) S.defers ⟨fun k_ => absurd k_ hc1, fun _ => rfl⟩ (Below.refl _ _)
       refine RunAll.cons (cndF q_159 false (eqv (.bool (t_139.2 != 0)))) [(cndF q_159 false (isI .i64 t_139.2), 135), (eqv (.bool q_159), 134)] rfl rfl ?_ ?_
       ·intro W_ hW
        by_cases hc1 : q_159 = false
        ·have hl1 : q_159 = false := hc1
         have S1 := S
         intro v_257 hF_258
         replace hF_258 := cndF.pos hF_258 hc1
         revert hF_258
         revert v_257
         rintro _ ⟨rfl, hF_259⟩
         replace S1 := S1.put (by decide : 135 < 156) (.int .i64 t_139.2)
         intro v_262 hF_261; obtain rfl : .bool q_159 = v_262 := Eq.symm hF_261
         replace S1 := S1.put (by decide : 134 < 156) (.bool q_159)
         refine fill_nil S1 ?_; clear S1; intro a_ S1
         rw [show q_159 = false from hl1] at S1
         exact RPost.one (v := .bool (t_139.2 != 0)) S1 tys tys_ok rfl (by kernel_rfl) S.defers ⟨fun _ => rfl, fun k_ => absurd hc1 k_⟩ (Below.refl _ _)
        ·have hl1 : q_159 = true := (by simpa using hc1)
         have S1 := S
         intro v_263 hF_264
         obtain rfl := cndF.neg hF_264 hc1
         replace S1 := S1.put (by decide : 135 < 156) (undef)
         intro v_266 hF_265; obtain rfl : .bool q_159 = v_266 := Eq.symm hF_265
         replace S1 := S1.put (by decide : 134 < 156) (.bool q_159)
         refine fill_nil S1 ?_; clear S1; intro a_ S1
         rw [show q_159 = true from hl1] at S1
         exact RPost.one (v := undef) S1 tys tys_ok rfl (by kernel_rfl) S.defers ⟨fun k_ => absurd k_ hc1, fun _ => rfl⟩ (Below.refl _ _)
       refine RunAll.cons (cndF q_159 false (eqv (.bool (t_139.2 != 0)))) [(cndF q_159 false (eqv (.bool (t_139.2 != 0))), 136), (eqv (.bool q_159), 134)] rfl rfl ?_ ?_
       ·intro W_ hW
        by_cases hc1 : q_159 = false
        ·have hl1 : q_159 = false := hc1
         have S1 := S
         intro v_267 hF_268
         replace hF_268 := cndF.pos hF_268 hc1
         revert hF_268
         revert v_267
         intro v_270 hF_269; obtain rfl : .bool (t_139.2 != 0) = v_270 := Eq.symm hF_269
         replace S1 := S1.put (by decide : 136 < 156) (.bool (t_139.2 != 0))
         intro v_272 hF_271; obtain rfl : .bool q_159 = v_272 := Eq.symm hF_271
         replace S1 := S1.put (by decide : 134 < 156) (.bool q_159)
         refine fill_nil S1 ?_; clear S1; intro a_ S1
         rw [show q_159 = false from hl1] at S1
         exact RPost.one (v := .bool (t_139.2 != 0)) S1 tys tys_ok rfl (by kernel_rfl) S.defers ⟨fun _ => rfl, fun k_ => absurd hc1 k_⟩ (Below.refl _ _)
        ·have hl1 : q_159 = true := (by simpa using hc1)
         have S1 := S
         intro v_273 hF_274
         obtain rfl := cndF.neg hF_274 hc1
         replace S1 := S1.put (by decide : 136 < 156) (undef)
         intro v_276 hF_275; obtain rfl : .bool q_159 = v_276 := Eq.symm hF_275
         replace S1 := S1.put (by decide : 134 < 156) (.bool q_159)
         refine fill_nil S1 ?_; clear S1; intro a_ S1
         rw [show q_159 = true from hl1] at S1
         exact RPost.one (v := undef) S1 tys tys_ok rfl (by kernel_rfl) S.defers ⟨fun k_ => absurd k_ hc1, fun _ => rfl⟩ (Below.refl _ _)
       refine RunAll.cons (cndF q_159 false (cndF (t_139.2 != 0) true (eqv (.pointer (some ((⟨b_153, 0, .none⟩ : Addr).add (coff gf0 0))))))) [(cndF q_159 false (eqv (.bool (t_139.2 != 0))), 137)] rfl rfl ?_ ?_
       ·intro W_ hW
        by_cases hc1 : q_159 = false
        ·have hl1 : q_159 = false := hc1
         by_cases hc2 : (t_139.2 != 0) = true
         ·have hl2 : (t_139.2 != 0) = true := hc2
          have S1 := S
          intro v_277 hF_278
          replace hF_278 := cndF.pos hF_278 hc1
          revert hF_278
          revert v_277
          intro v_280 hF_279; obtain rfl : .bool (t_139.2 != 0) = v_280 := Eq.symm hF_279
          replace S1 := S1.put (by decide : 137 < 156) (.bool (t_139.2 != 0))
          refine fill_nil S1 ?_; clear S1; intro a_ S1
          replace B_154 := B_154.step hW
          rw [show (t_139.2 != 0) = true from hl2] at S1
          exact RPost.one (v := .pointer (some ((⟨b_153, 0, .none⟩ : Addr).add (coff gf0 0)))) S1 tys tys_ok rfl (by kernel_rfl) S.defers ⟨fun _ => ⟨fun _ => rfl, fun k_ => absurd hc2 k_⟩, fun k_ => absurd hc1 k_⟩ (Below.refl _ _)
         ·have hl2 : (t_139.2 != 0) = false := Bool.eq_false_iff.2 hc2
          have S1 := S
          intro v_281 hF_282
          replace hF_282 := cndF.pos hF_282 hc1
          revert hF_282
          revert v_281
          intro v_284 hF_283; obtain rfl : .bool (t_139.2 != 0) = v_284 := Eq.symm hF_283
          replace S1 := S1.put (by decide : 137 < 156) (.bool (t_139.2 != 0))
          refine fill_nil S1 ?_; clear S1; intro a_ S1
          rw [show (t_139.2 != 0) = false from hl2] at S1
          exact RPost.one (v := undef) S1 tys tys_ok rfl (by kernel_rfl) S.defers ⟨fun _ => ⟨fun k_ => absurd k_ hc2, fun _ => rfl⟩, fun k_ => absurd hc1 k_⟩ (Below.refl _ _)
        ·have hl1 : q_159 = true := (by simpa using hc1)
         have S1 := S
         intro v_285 hF_286
         obtain rfl := cndF.neg hF_286 hc1
         replace S1 := S1.put (by decide : 137 < 156) (undef)
         exact RPost.one (v := undef) S1 tys tys_ok rfl (by kernel_rfl) S.defers ⟨fun k_ => absurd k_ hc1, fun _ => rfl⟩ (Below.refl _ _)
       refine RunAll.cons (cndF q_159 false (cndF (t_139.2 != 0) true (isI .u16 t_146.1.1))) [(cndF q_159 false (cndF (t_139.2 != 0) true (eqv (.pointer (some ((⟨b_153, 0, .none⟩ : Addr).add (coff gf0 0)))))), 138), (cndF q_159 false (eqv (.bool (t_139.2 != 0))), 137)] rfl rfl ?_ ?_
       ·intro W_ hW
        by_cases hc1 : q_159 = false
        ·have hl1 : q_159 = false := hc1
         by_cases hc2 : (t_139.2 != 0) = true
         ·have hl2 : (t_139.2 != 0) = true := hc2
          have S1 := S
          intro v_287 hF_288
          replace hF_288 := cndF.pos hF_288 hc1
          replace hF_288 := cndF.pos hF_288 hc2
          revert hF_288
          revert v_287
          intro v_290 hF_289; obtain rfl : .pointer (some ((⟨b_153, 0, .none⟩ : Addr).add (coff gf0 0))) = v_290 := Eq.symm hF_289
          replace S1 := S1.put (by decide : 138 < 156) (.pointer (some ((⟨b_153, 0, .none⟩ : Addr).add (coff gf0 0))))
          intro v_291 hF_292
          replace hF_292 := cndF.pos hF_292 hc1
          revert hF_292
          revert v_291
          intro v_294 hF_293; obtain rfl : .bool (t_139.2 != 0) = v_294 := Eq.symm hF_293
          replace S1 := S1.put (by decide : 137 < 156) (.bool (t_139.2 != 0))
          refine fill_nil S1 ?_; clear S1; intro a_ S1
          replace B_154 := B_154.step hW
          rw [show (t_139.2 != 0) = true from hl2] at S1
          have S0 := S.defers; replace S := S1; clear S1
          obtain ⟨eq_170, _⟩ := (HG_169).1 hc1
          refine w_go S rfl (op_load (t := (.int .u16)) (x := t_146.1.1) S rfl ty22 rfl rfl rfl (RepAt.add 0 (RepAt.st (t := gf0) B_154.at_)) ?_)
          clear S; intro a v_295 R_296 S
          obtain ⟨rfl, GR_296⟩ := RepV.int R_296
          refine wpList_nil ?_
          exact RPost.mk_ S rfl S0 ⟨fun _ => ⟨fun _ => ⟨rfl, GR_296⟩, fun k_ => absurd hc2 k_⟩, fun k_ => absurd hc1 k_⟩ (Below.refl _ _)
         ·have hl2 : (t_139.2 != 0) = false := Bool.eq_false_iff.2 hc2
          have S1 := S
          intro v_297 hF_298
          replace hF_298 := cndF.pos hF_298 hc1
          obtain rfl := cndF.neg hF_298 hc2
          replace S1 := S1.put (by decide : 138 < 156) (undef)
          intro v_299 hF_300
          replace hF_300 := cndF.pos hF_300 hc1
          revert hF_300
          revert v_299
          intro v_302 hF_301; obtain rfl : .bool (t_139.2 != 0) = v_302 := Eq.symm hF_301
          replace S1 := S1.put (by decide : 137 < 156) (.bool (t_139.2 != 0))
          refine fill_nil S1 ?_; clear S1; intro a_ S1
          rw [show (t_139.2 != 0) = false from hl2] at S1
          exact RPost.one (v := undef) S1 tys tys_ok rfl (by kernel_rfl) S.defers ⟨fun _ => ⟨fun k_ => absurd k_ hc2, fun _ => rfl⟩, fun k_ => absurd hc1 k_⟩ (Below.refl _ _)
        ·have hl1 : q_159 = true := (by simpa using hc1)
         have S1 := S
         intro v_303 hF_304
         obtain rfl := cndF.neg hF_304 hc1
         replace S1 := S1.put (by decide : 138 < 156) (undef)
         intro v_305 hF_306
         obtain rfl := cndF.neg hF_306 hc1
         replace S1 := S1.put (by decide : 137 < 156) (undef)
         exact RPost.one (v := undef) S1 tys tys_ok rfl (by kernel_rfl) S.defers ⟨fun k_ => absurd k_ hc1, fun _ => rfl⟩ (Below.refl _ _)
       refine RunAll.cons (cndF q_159 false (cndF (t_139.2 != 0) true (eqv (.bool (t_146.1.1 != 0))))) [(cndF q_159 false (cndF (t_139.2 != 0) true (isI .u16 t_146.1.1)), 139), (cndF q_159 false (eqv (.bool (t_139.2 != 0))), 137)] rfl rfl ?_ ?_
       ·intro W_ hW
        by_cases hc1 : q_159 = false
        ·have hl1 : q_159 = false := hc1
         by_cases hc2 : (t_139.2 != 0) = true
         ·have hl2 : (t_139.2 != 0) = true := hc2
          have S1 := S
          intro v_307 hF_308
          replace hF_308 := cndF.pos hF_308 hc1
          replace hF_308 := cndF.pos hF_308 hc2
          revert hF_308
          revert v_307
          rintro _ ⟨rfl, hF_309⟩
          replace S1 := S1.put (by decide : 139 < 156) (.int .u16 t_146.1.1)
          intro v_311 hF_312
          replace hF_312 := cndF.pos hF_312 hc1
          revert hF_312
          revert v_311
          intro v_314 hF_313; obtain rfl : .bool (t_139.2 != 0) = v_314 := Eq.symm hF_313
          replace S1 := S1.put (by decide : 137 < 156) (.bool (t_139.2 != 0))
          refine fill_nil S1 ?_; clear S1; intro a_ S1
          rw [show (t_139.2 != 0) = true from hl2] at S1
          exact RPost.one (v := .bool (t_146.1.1 != 0)) S1 tys tys_ok rfl (by kernel_rfl) S.defers ⟨fun _ => ⟨fun _ => rfl, fun k_ => absurd hc2 k_⟩, fun k_ => absurd hc1 k_⟩ (Below.refl _ _)
         ·have hl2 : (t_139.2 != 0) = false := Bool.eq_false_iff.2 hc2
          have S1 := S
          intro v_315 hF_316
          replace hF_316 := cndF.pos hF_316 hc1
          obtain rfl := cndF.neg hF_316 hc2
          replace S1 := S1.put (by decide : 139 < 156) (undef)
          intro v_317 hF_318
          replace hF_318 := cndF.pos hF_318 hc1
          revert hF_318
          revert v_317
          intro v_320 hF_319; obtain rfl : .bool (t_139.2 != 0) = v_320 := Eq.symm hF_319
          replace S1 := S1.put (by decide : 137 < 156) (.bool (t_139.2 != 0))
          refine fill_nil S1 ?_; clear S1; intro a_ S1
          rw [show (t_139.2 != 0) = false from hl2] at S1
          exact RPost.one (v := undef) S1 tys tys_ok rfl (by kernel_rfl) S.defers ⟨fun _ => ⟨fun k_ => absurd k_ hc2, fun _ => rfl⟩, fun k_ => absurd hc1 k_⟩ (Below.refl _ _)
        ·have hl1 : q_159 = true := (by simpa using hc1)
         have S1 := S
         intro v_321 hF_322
         obtain rfl := cndF.neg hF_322 hc1
         replace S1 := S1.put (by decide : 139 < 156) (undef)
         intro v_323 hF_324
         obtain rfl := cndF.neg hF_324 hc1
         replace S1 := S1.put (by decide : 137 < 156) (undef)
         exact RPost.one (v := undef) S1 tys tys_ok rfl (by kernel_rfl) S.defers ⟨fun k_ => absurd k_ hc1, fun _ => rfl⟩ (Below.refl _ _)
       refine RunAll.cons (cndF q_159 false (eqv (.bool q_170))) [(cndF q_159 false (eqv (.bool (t_139.2 != 0))), 137), (cndF q_159 false (cndF (t_139.2 != 0) true (eqv (.bool (t_146.1.1 != 0)))), 140), (eqv (.bool q_159), 134)] rfl rfl ?_ ?_
       ·intro W_ hW
        by_cases hc1 : q_159 = false
        ·have hl1 : q_159 = false := hc1
         by_cases hc2 : (t_139.2 != 0) = true
         ·have hl2 : (t_139.2 != 0) = true := hc2
          have S1 := S
          intro v_325 hF_326
          replace hF_326 := cndF.pos hF_326 hc1
          revert hF_326
          revert v_325
          intro v_328 hF_327; obtain rfl : .bool (t_139.2 != 0) = v_328 := Eq.symm hF_327
          replace S1 := S1.put (by decide : 137 < 156) (.bool (t_139.2 != 0))
          intro v_329 hF_330
          replace hF_330 := cndF.pos hF_330 hc1
          replace hF_330 := cndF.pos hF_330 hc2
          revert hF_330
          revert v_329
          intro v_332 hF_331; obtain rfl : .bool (t_146.1.1 != 0) = v_332 := Eq.symm hF_331
          replace S1 := S1.put (by decide : 140 < 156) (.bool (t_146.1.1 != 0))
          intro v_334 hF_333; obtain rfl : .bool q_159 = v_334 := Eq.symm hF_333
          replace S1 := S1.put (by decide : 134 < 156) (.bool q_159)
          refine fill_nil S1 ?_; clear S1; intro a_ S1
          rw [show q_159 = false from hl1] at S1
          rw [show (t_139.2 != 0) = true from hl2] at S1
          exact RPost.one (v := .bool (t_146.1.1 != 0)) S1 tys tys_ok rfl (by kernel_rfl) S.defers ⟨fun _ => (congrArg Value.bool ((HG_171 hc1).1 hc2)), fun k_ => absurd hc1 k_⟩ (Below.refl _ _)
         ·have hl2 : (t_139.2 != 0) = false := Bool.eq_false_iff.2 hc2
          have S1 := S
          intro v_335 hF_336
          replace hF_336 := cndF.pos hF_336 hc1
          revert hF_336
          revert v_335
          intro v_338 hF_337; obtain rfl : .bool (t_139.2 != 0) = v_338 := Eq.symm hF_337
          replace S1 := S1.put (by decide : 137 < 156) (.bool (t_139.2 != 0))
          intro v_339 hF_340
          replace hF_340 := cndF.pos hF_340 hc1
          obtain rfl := cndF.neg hF_340 hc2
          replace S1 := S1.put (by decide : 140 < 156) (undef)
          intro v_342 hF_341; obtain rfl : .bool q_159 = v_342 := Eq.symm hF_341
          replace S1 := S1.put (by decide : 134 < 156) (.bool q_159)
          refine fill_nil S1 ?_; clear S1; intro a_ S1
          rw [show q_159 = false from hl1] at S1
          rw [show (t_139.2 != 0) = false from hl2] at S1
          exact RPost.one (v := .bool false) S1 tys tys_ok rfl (by kernel_rfl) S.defers ⟨fun _ => (congrArg Value.bool ((HG_171 hc1).2 hc2)), fun k_ => absurd hc1 k_⟩ (Below.refl _ _)
        ·have hl1 : q_159 = true := (by simpa using hc1)
         have S1 := S
         intro v_343 hF_344
         obtain rfl := cndF.neg hF_344 hc1
         replace S1 := S1.put (by decide : 137 < 156) (undef)
         intro v_345 hF_346
         obtain rfl := cndF.neg hF_346 hc1
         replace S1 := S1.put (by decide : 140 < 156) (undef)
         intro v_348 hF_347; obtain rfl : .bool q_159 = v_348 := Eq.symm hF_347
         replace S1 := S1.put (by decide : 134 < 156) (.bool q_159)
         refine fill_nil S1 ?_; clear S1; intro a_ S1
         rw [show q_159 = true from hl1] at S1
         exact RPost.one (v := undef) S1 tys tys_ok rfl (by kernel_rfl) S.defers ⟨fun k_ => absurd k_ hc1, fun _ => rfl⟩ (Below.refl _ _)
       refine RunAll.cons (eqv (.bool q_168)) [(eqv (.bool q_159), 134), (cndF q_159 false (eqv (.bool q_170)), 141)] rfl rfl ?_ ?_
       ·intro W_ hW
        by_cases hc1 : q_159 = false
        ·have hl1 : q_159 = false := hc1
         have S1 := S
         intro v_350 hF_349; obtain rfl : .bool q_159 = v_350 := Eq.symm hF_349
         replace S1 := S1.put (by decide : 134 < 156) (.bool q_159)
         intro v_351 hF_352
         replace hF_352 := cndF.pos hF_352 hc1
         revert hF_352
         revert v_351
         intro v_354 hF_353; obtain rfl : .bool q_170 = v_354 := Eq.symm hF_353
         replace S1 := S1.put (by decide : 141 < 156) (.bool q_170)
         refine fill_nil S1 ?_; clear S1; intro a_ S1
         rw [show q_159 = false from hl1] at S1
         exact RPost.one (v := .bool q_170) S1 tys tys_ok rfl (by kernel_rfl) S.defers (congrArg Value.bool ((HG_169).1 hc1).2) (Below.refl _ _)
        ·have hl1 : q_159 = true := (by simpa using hc1)
         have S1 := S
         intro v_356 hF_355; obtain rfl : .bool q_159 = v_356 := Eq.symm hF_355
         replace S1 := S1.put (by decide : 134 < 156) (.bool q_159)
         intro v_357 hF_358
         obtain rfl := cndF.neg hF_358 hc1
         replace S1 := S1.put (by decide : 141 < 156) (undef)
         refine fill_nil S1 ?_; clear S1; intro a_ S1
         rw [show q_159 = true from hl1] at S1
         exact RPost.one (v := .bool true) S1 tys tys_ok rfl (by kernel_rfl) S.defers (congrArg Value.bool ((HG_169).2 hc1)) (Below.refl _ _)
       refine RunAll.cons (eqv (.bool q_168)) [(eqv (.bool q_168), 142)] rfl rfl ?_ ?_
       ·intro W_ hW
        have S1 := S
        intro v_360 hF_359; obtain rfl : .bool q_168 = v_360 := Eq.symm hF_359
        replace S1 := S1.put (by decide : 142 < 156) (.bool q_168)
        exact RPost.one (v := .bool q_168) S1 tys tys_ok rfl (by kernel_rfl) S.defers rfl (Below.refl _ _)
       refine RunAll.cons (cndF q_168 false (isI .i64 t_139.2)) [(eqv (.bool q_168), 143)] rfl rfl ?_ ?_
       ·intro W_ hW
        by_cases hc3 : q_168 = false
        ·have hl3 : q_168 = false := hc3
         have S1 := S
         intro v_362 hF_361; obtain rfl : .bool q_168 = v_362 := Eq.symm hF_361
         replace S1 := S1.put (by decide : 143 < 156) (.bool q_168)
         refine fill_nil S1 ?_; clear S1; intro a_ S1
         rw [show q_168 = false from hl3] at S1
         exact RPost.one (v := .int .i64 t_139.2) S1 tys tys_ok rfl (by kernel_rfl) S.defers ⟨fun _ => ⟨rfl, GR_143⟩, fun k_ => absurd hc3 k_⟩ (Below.refl _ _)
        ·have hl3 : q_168 = true := (by simpa using hc3)
         have S1 := S
         intro v_364 hF_363; obtain rfl : .bool q_168 = v_364 := Eq.symm hF_363
         replace S1 := S1.put (by decide : 143 < 156) (.bool q_168)
         refine fill_nil S1 ?_; clear S1; intro a_ S1
         rw [show q_168 = true from hl3] at S1
         exact RPost.one (v := undef) S1 tys tys_ok rfl (by kernel_rfl) S.defers ⟨fun k_ => absurd k_ hc3, fun _ => rfl⟩ (Below.refl _ _)
       refine RunAll.cons (cndF q_168 false (eqv (.bool (t_139.2 == 0)))) [(cndF q_168 false (isI .i64 t_139.2), 144), (eqv (.bool q_168), 143)] rfl rfl ?_ ?_
       ·intro W_ hW
        by_cases hc3 : q_168 = false
        ·have hl3 : q_168 = false := hc3
         have S1 := S
         intro v_365 hF_366
         replace hF_366 := cndF.pos hF_366 hc3
         revert hF_366
         revert v_365
         rintro _ ⟨rfl, hF_367⟩
         replace S1 := S1.put (by decide : 144 < 156) (.int .i64 t_139.2)
         intro v_370 hF_369; obtain rfl : .bool q_168 = v_370 := Eq.symm hF_369
         replace S1 := S1.put (by decide : 143 < 156) (.bool q_168)
         refine fill_nil S1 ?_; clear S1; intro a_ S1
         rw [show q_168 = false from hl3] at S1
         exact RPost.one (v := .bool (t_139.2 == 0)) S1 tys tys_ok rfl (by kernel_rfl) S.defers ⟨fun _ => rfl, fun k_ => absurd hc3 k_⟩ (Below.refl _ _)
        ·have hl3 : q_168 = true := (by simpa using hc3)
         have S1 := S
         intro v_371 hF_372
         obtain rfl := cndF.neg hF_372 hc3
         replace S1 := S1.put (by decide : 144 < 156) (undef)
         intro v_374 hF_373; obtain rfl : .bool q_168 = v_374 := Eq.symm hF_373
         replace S1 := S1.put (by decide : 143 < 156) (.bool q_168)
         refine fill_nil S1 ?_; clear S1; intro a_ S1
         rw [show q_168 = true from hl3] at S1
         exact RPost.one (v := undef) S1 tys tys_ok rfl (by kernel_rfl) S.defers ⟨fun k_ => absurd k_ hc3, fun _ => rfl⟩ (Below.refl _ _)
       refine RunAll.cons (cndF q_168 false (eqv (.bool (t_139.2 == 0)))) [(cndF q_168 false (eqv (.bool (t_139.2 == 0))), 145), (eqv (.bool q_168), 143)] rfl rfl ?_ ?_
       ·intro W_ hW
        by_cases hc3 : q_168 = false
        ·have hl3 : q_168 = false := hc3
         have S1 := S
         intro v_375 hF_376
         replace hF_376 := cndF.pos hF_376 hc3
         revert hF_376
         revert v_375
         intro v_378 hF_377; obtain rfl : .bool (t_139.2 == 0) = v_378 := Eq.symm hF_377
         replace S1 := S1.put (by decide : 145 < 156) (.bool (t_139.2 == 0))
         intro v_380 hF_379; obtain rfl : .bool q_168 = v_380 := Eq.symm hF_379
         replace S1 := S1.put (by decide : 143 < 156) (.bool q_168)
         refine fill_nil S1 ?_; clear S1; intro a_ S1
         rw [show q_168 = false from hl3] at S1
         exact RPost.one (v := .bool (t_139.2 == 0)) S1 tys tys_ok rfl (by kernel_rfl) S.defers ⟨fun _ => rfl, fun k_ => absurd hc3 k_⟩ (Below.refl _ _)
        ·have hl3 : q_168 = true := (by simpa using hc3)
         have S1 := S
         intro v_381 hF_382
         obtain rfl := cndF.neg hF_382 hc3
         replace S1 := S1.put (by decide : 145 < 156) (undef)
         intro v_384 hF_383; obtain rfl : .bool q_168 = v_384 := Eq.symm hF_383
         replace S1 := S1.put (by decide : 143 < 156) (.bool q_168)
         refine fill_nil S1 ?_; clear S1; intro a_ S1
         rw [show q_168 = true from hl3] at S1
         exact RPost.one (v := undef) S1 tys tys_ok rfl (by kernel_rfl) S.defers ⟨fun k_ => absurd k_ hc3, fun _ => rfl⟩ (Below.refl _ _)
       refine RunAll.cons (cndF q_168 false (cndF (t_139.2 == 0) true (eqv (.pointer (some ((⟨b_153, 0, .none⟩ : Addr).add (coff gf0 0))))))) [(cndF q_168 false (eqv (.bool (t_139.2 == 0))), 146)] rfl rfl ?_ ?_
       ·intro W_ hW
        by_cases hc3 : q_168 = false
        ·have hl3 : q_168 = false := hc3
         by_cases hc4 : (t_139.2 == 0) = true
         ·have hl4 : (t_139.2 == 0) = true := hc4
          have S1 := S
          intro v_385 hF_386
          replace hF_386 := cndF.pos hF_386 hc3
          revert hF_386
          revert v_385
          intro v_388 hF_387; obtain rfl : .bool (t_139.2 == 0) = v_388 := Eq.symm hF_387
          replace S1 := S1.put (by decide : 146 < 156) (.bool (t_139.2 == 0))
          refine fill_nil S1 ?_; clear S1; intro a_ S1
          replace B_154 := B_154.step hW
          rw [show (t_139.2 == 0) = true from hl4] at S1
          exact RPost.one (v := .pointer (some ((⟨b_153, 0, .none⟩ : Addr).add (coff gf0 0)))) S1 tys tys_ok rfl (by kernel_rfl) S.defers ⟨fun _ => ⟨fun _ => rfl, fun k_ => absurd hc4 k_⟩, fun k_ => absurd hc3 k_⟩ (Below.refl _ _)
         ·have hl4 : (t_139.2 == 0) = false := Bool.eq_false_iff.2 hc4
          have S1 := S
          intro v_389 hF_390
          replace hF_390 := cndF.pos hF_390 hc3
          revert hF_390
          revert v_389
          intro v_392 hF_391; obtain rfl : .bool (t_139.2 == 0) = v_392 := Eq.symm hF_391
          replace S1 := S1.put (by decide : 146 < 156) (.bool (t_139.2 == 0))
          refine fill_nil S1 ?_; clear S1; intro a_ S1
          rw [show (t_139.2 == 0) = false from hl4] at S1
          exact RPost.one (v := undef) S1 tys tys_ok rfl (by kernel_rfl) S.defers ⟨fun _ => ⟨fun k_ => absurd k_ hc4, fun _ => rfl⟩, fun k_ => absurd hc3 k_⟩ (Below.refl _ _)
        ·have hl3 : q_168 = true := (by simpa using hc3)
         have S1 := S
         intro v_393 hF_394
         obtain rfl := cndF.neg hF_394 hc3
         replace S1 := S1.put (by decide : 146 < 156) (undef)
         exact RPost.one (v := undef) S1 tys tys_ok rfl (by kernel_rfl) S.defers ⟨fun k_ => absurd k_ hc3, fun _ => rfl⟩ (Below.refl _ _)
       refine RunAll.cons (cndF q_168 false (cndF (t_139.2 == 0) true (isI .u16 t_146.1.1))) [(cndF q_168 false (cndF (t_139.2 == 0) true (eqv (.pointer (some ((⟨b_153, 0, .none⟩ : Addr).add (coff gf0 0)))))), 147), (cndF q_168 false (eqv (.bool (t_139.2 == 0))), 146)] rfl rfl ?_ ?_
       ·intro W_ hW
        by_cases hc3 : q_168 = false
        ·have hl3 : q_168 = false := hc3
         by_cases hc4 : (t_139.2 == 0) = true
         ·have hl4 : (t_139.2 == 0) = true := hc4
          have S1 := S
          intro v_395 hF_396
          replace hF_396 := cndF.pos hF_396 hc3
          replace hF_396 := cndF.pos hF_396 hc4
          revert hF_396
          revert v_395
          intro v_398 hF_397; obtain rfl : .pointer (some ((⟨b_153, 0, .none⟩ : Addr).add (coff gf0 0))) = v_398 := Eq.symm hF_397
          replace S1 := S1.put (by decide : 147 < 156) (.pointer (some ((⟨b_153, 0, .none⟩ : Addr).add (coff gf0 0))))
          intro v_399 hF_400
          replace hF_400 := cndF.pos hF_400 hc3
          revert hF_400
          revert v_399
          intro v_402 hF_401; obtain rfl : .bool (t_139.2 == 0) = v_402 := Eq.symm hF_401
          replace S1 := S1.put (by decide : 146 < 156) (.bool (t_139.2 == 0))
          refine fill_nil S1 ?_; clear S1; intro a_ S1
          replace B_154 := B_154.step hW
          rw [show (t_139.2 == 0) = true from hl4] at S1
          have S0 := S.defers; replace S := S1; clear S1
          obtain ⟨eq_176, _⟩ := (HG_175).1 hc3
          obtain ⟨et_180, _⟩ := (HG_177 hc3).1 hc4
          refine w_go S rfl (op_load (t := (.int .u16)) (x := t_146.1.1) S rfl ty22 rfl rfl rfl (RepAt.add 0 (RepAt.st (t := gf0) B_154.at_)) ?_)
          clear S; intro a v_403 R_404 S
          obtain ⟨rfl, GR_404⟩ := RepV.int R_404
          refine wpList_nil ?_
          exact RPost.mk_ S rfl S0 ⟨fun _ => ⟨fun _ => ⟨rfl, GR_404⟩, fun k_ => absurd hc4 k_⟩, fun k_ => absurd hc3 k_⟩ (Below.refl _ _)
         ·have hl4 : (t_139.2 == 0) = false := Bool.eq_false_iff.2 hc4
          have S1 := S
          intro v_405 hF_406
          replace hF_406 := cndF.pos hF_406 hc3
          obtain rfl := cndF.neg hF_406 hc4
          replace S1 := S1.put (by decide : 147 < 156) (undef)
          intro v_407 hF_408
          replace hF_408 := cndF.pos hF_408 hc3
          revert hF_408
          revert v_407
          intro v_410 hF_409; obtain rfl : .bool (t_139.2 == 0) = v_410 := Eq.symm hF_409
          replace S1 := S1.put (by decide : 146 < 156) (.bool (t_139.2 == 0))
          refine fill_nil S1 ?_; clear S1; intro a_ S1
          rw [show (t_139.2 == 0) = false from hl4] at S1
          exact RPost.one (v := undef) S1 tys tys_ok rfl (by kernel_rfl) S.defers ⟨fun _ => ⟨fun k_ => absurd k_ hc4, fun _ => rfl⟩, fun k_ => absurd hc3 k_⟩ (Below.refl _ _)
        ·have hl3 : q_168 = true := (by simpa using hc3)
         have S1 := S
         intro v_411 hF_412
         obtain rfl := cndF.neg hF_412 hc3
         replace S1 := S1.put (by decide : 147 < 156) (undef)
         intro v_413 hF_414
         obtain rfl := cndF.neg hF_414 hc3
         replace S1 := S1.put (by decide : 146 < 156) (undef)
         exact RPost.one (v := undef) S1 tys tys_ok rfl (by kernel_rfl) S.defers ⟨fun k_ => absurd k_ hc3, fun _ => rfl⟩ (Below.refl _ _)
       refine RunAll.cons (cndF q_168 false (cndF (t_139.2 == 0) true (isI .i64 t_146.1.1))) [(cndF q_168 false (cndF (t_139.2 == 0) true (isI .u16 t_146.1.1)), 148), (cndF q_168 false (eqv (.bool (t_139.2 == 0))), 146)] rfl rfl ?_ ?_
       ·intro W_ hW
        by_cases hc3 : q_168 = false
        ·have hl3 : q_168 = false := hc3
         by_cases hc4 : (t_139.2 == 0) = true
         ·have hl4 : (t_139.2 == 0) = true := hc4
          have S1 := S
          intro v_415 hF_416
          replace hF_416 := cndF.pos hF_416 hc3
          replace hF_416 := cndF.pos hF_416 hc4
          revert hF_416
          revert v_415
          rintro _ ⟨rfl, hF_417⟩
          replace S1 := S1.put (by decide : 148 < 156) (.int .u16 t_146.1.1)
          intro v_419 hF_420
          replace hF_420 := cndF.pos hF_420 hc3
          revert hF_420
          revert v_419
          intro v_422 hF_421; obtain rfl : .bool (t_139.2 == 0) = v_422 := Eq.symm hF_421
          replace S1 := S1.put (by decide : 146 < 156) (.bool (t_139.2 == 0))
          refine fill_nil S1 ?_; clear S1; intro a_ S1
          replace W := W.step hW
          rw [show (t_139.2 == 0) = true from hl4] at S1
          have S0 := S.defers; replace S := S1; clear S1
          obtain ⟨eq_176, _⟩ := (HG_175).1 hc3
          obtain ⟨et_180, _⟩ := (HG_177 hc3).1 hc4
          refine w_go S rfl (op_conv S .i64 .bool .bool rfl ty22 ty3 rfl rfl rfl (widen hF_417 (by decide)).1 ?_)
          clear S; intro a S
          refine wpList_nil ?_
          exact RPost.mk_ S rfl S0 ⟨fun _ => ⟨fun _ => ⟨rfl, (widen hF_417 (by decide)).2⟩, fun k_ => absurd hc4 k_⟩, fun k_ => absurd hc3 k_⟩ (Below.refl _ _)
         ·have hl4 : (t_139.2 == 0) = false := Bool.eq_false_iff.2 hc4
          have S1 := S
          intro v_423 hF_424
          replace hF_424 := cndF.pos hF_424 hc3
          obtain rfl := cndF.neg hF_424 hc4
          replace S1 := S1.put (by decide : 148 < 156) (undef)
          intro v_425 hF_426
          replace hF_426 := cndF.pos hF_426 hc3
          revert hF_426
          revert v_425
          intro v_428 hF_427; obtain rfl : .bool (t_139.2 == 0) = v_428 := Eq.symm hF_427
          replace S1 := S1.put (by decide : 146 < 156) (.bool (t_139.2 == 0))
          refine fill_nil S1 ?_; clear S1; intro a_ S1
          rw [show (t_139.2 == 0) = false from hl4] at S1
          exact RPost.one (v := undef) S1 tys tys_ok rfl (by kernel_rfl) S.defers ⟨fun _ => ⟨fun k_ => absurd k_ hc4, fun _ => rfl⟩, fun k_ => absurd hc3 k_⟩ (Below.refl _ _)
        ·have hl3 : q_168 = true := (by simpa using hc3)
         have S1 := S
         intro v_429 hF_430
         obtain rfl := cndF.neg hF_430 hc3
         replace S1 := S1.put (by decide : 148 < 156) (undef)
         intro v_431 hF_432
         obtain rfl := cndF.neg hF_432 hc3
         replace S1 := S1.put (by decide : 146 < 156) (undef)
         exact RPost.one (v := undef) S1 tys tys_ok rfl (by kernel_rfl) S.defers ⟨fun k_ => absurd k_ hc3, fun _ => rfl⟩ (Below.refl _ _)
       refine RunAll.cons (cndF q_168 false (cndF (t_139.2 == 0) true (isRep (.sl (.int .u8)) (Kx K w.heap.size [some b_153, v_140.ownBlock]) y_133))) [(cndF q_168 false (eqv (.bool (t_139.2 == 0))), 146)] rfl rfl ?_ ?_
       ·intro W_ hW
        by_cases hc3 : q_168 = false
        ·have hl3 : q_168 = false := hc3
         by_cases hc4 : (t_139.2 == 0) = true
         ·have hl4 : (t_139.2 == 0) = true := hc4
          have S1 := S
          intro v_433 hF_434
          replace hF_434 := cndF.pos hF_434 hc3
          revert hF_434
          revert v_433
          intro v_436 hF_435; obtain rfl : .bool (t_139.2 == 0) = v_436 := Eq.symm hF_435
          replace S1 := S1.put (by decide : 146 < 156) (.bool (t_139.2 == 0))
          refine fill_nil S1 ?_; clear S1; intro a_ S1
          replace R_138 := R_138.step hW
          rw [show (t_139.2 == 0) = true from hl4] at S1
          exact RPost.one (v := v_137) S1 tys tys_ok rfl (by kernel_rfl) S.defers ⟨fun _ => ⟨fun _ => R_138, fun k_ => absurd hc4 k_⟩, fun k_ => absurd hc3 k_⟩ (Below.refl _ _)
         ·have hl4 : (t_139.2 == 0) = false := Bool.eq_false_iff.2 hc4
          have S1 := S
          intro v_437 hF_438
          replace hF_438 := cndF.pos hF_438 hc3
          revert hF_438
          revert v_437
          intro v_440 hF_439; obtain rfl : .bool (t_139.2 == 0) = v_440 := Eq.symm hF_439
          replace S1 := S1.put (by decide : 146 < 156) (.bool (t_139.2 == 0))
          refine fill_nil S1 ?_; clear S1; intro a_ S1
          rw [show (t_139.2 == 0) = false from hl4] at S1
          exact RPost.one (v := undef) S1 tys tys_ok rfl (by kernel_rfl) S.defers ⟨fun _ => ⟨fun k_ => absurd k_ hc4, fun _ => rfl⟩, fun k_ => absurd hc3 k_⟩ (Below.refl _ _)
        ·have hl3 : q_168 = true := (by simpa using hc3)
         have S1 := S
         intro v_441 hF_442
         obtain rfl := cndF.neg hF_442 hc3
         replace S1 := S1.put (by decide : 146 < 156) (undef)
         exact RPost.one (v := undef) S1 tys tys_ok rfl (by kernel_rfl) S.defers ⟨fun k_ => absurd k_ hc3, fun _ => rfl⟩ (Below.refl _ _)
       refine RunAll.cons (cndF q_168 false (cndF (t_139.2 == 0) true (isI .i64 t_180))) [(cndF q_168 false (cndF (t_139.2 == 0) true (isRep (.sl (.int .u8)) (Kx K w.heap.size [some b_153, v_140.ownBlock]) y_133)), 150), (cndF q_168 false (eqv (.bool (t_139.2 == 0))), 146)] rfl rfl ?_ ?_
       ·intro W_ hW
        by_cases hc3 : q_168 = false
        ·have hl3 : q_168 = false := hc3
         by_cases hc4 : (t_139.2 == 0) = true
         ·have hl4 : (t_139.2 == 0) = true := hc4
          have S1 := S
          intro v_443 hF_444
          replace hF_444 := cndF.pos hF_444 hc3
          replace hF_444 := cndF.pos hF_444 hc4
          revert hF_444
          revert v_443
          intro v_446 hF_445; replace hF_445 : RepV _ _ _ _ _ := hF_445
          replace S1 := S1.put (by decide : 150 < 156) (v_446)
          intro v_447 hF_448
          replace hF_448 := cndF.pos hF_448 hc3
          revert hF_448
          revert v_447
          intro v_450 hF_449; obtain rfl : .bool (t_139.2 == 0) = v_450 := Eq.symm hF_449
          replace S1 := S1.put (by decide : 146 < 156) (.bool (t_139.2 == 0))
          refine fill_nil S1 ?_; clear S1; intro a_ S1
          replace W := W.step hW
          rw [show (t_139.2 == 0) = true from hl4] at S1
          have S0 := S.defers; replace S := S1; clear S1
          obtain ⟨eq_176, _⟩ := (HG_175).1 hc3
          obtain ⟨et_180, _⟩ := (HG_177 hc3).1 hc4
          refine w_go S rfl (op_call (vs := [v_446, .int .i64 6]) S rfl cb14 rfl rfl rfl (c14 (Kx K w.heap.size [some b_153, v_140.ownBlock]) n W_ y_133 _ hF_445 6 (by decide) et_180) ?_)
          rintro _ w_454 ⟨v_451, rfl, R_452, hb_453⟩; refine ⟨_, rfl, ?_⟩
          replace R_452 := RepV.back R_452 W
          clear S; intro a S
          obtain ⟨rfl, GR_452⟩ := RepV.int R_452
          refine wpList_nil ?_
          exact RPost.mk_ S rfl S0 ⟨fun _ => ⟨fun _ => ⟨rfl, GR_452⟩, fun k_ => absurd hc4 k_⟩, fun k_ => absurd hc3 k_⟩ (hb_453)
         ·have hl4 : (t_139.2 == 0) = false := Bool.eq_false_iff.2 hc4
          have S1 := S
          intro v_455 hF_456
          replace hF_456 := cndF.pos hF_456 hc3
          obtain rfl := cndF.neg hF_456 hc4
          replace S1 := S1.put (by decide : 150 < 156) (undef)
          intro v_457 hF_458
          replace hF_458 := cndF.pos hF_458 hc3
          revert hF_458
          revert v_457
          intro v_460 hF_459; obtain rfl : .bool (t_139.2 == 0) = v_460 := Eq.symm hF_459
          replace S1 := S1.put (by decide : 146 < 156) (.bool (t_139.2 == 0))
          refine fill_nil S1 ?_; clear S1; intro a_ S1
          rw [show (t_139.2 == 0) = false from hl4] at S1
          exact RPost.one (v := undef) S1 tys tys_ok rfl (by kernel_rfl) S.defers ⟨fun _ => ⟨fun k_ => absurd k_ hc4, fun _ => rfl⟩, fun k_ => absurd hc3 k_⟩ (Below.refl _ _)
        ·have hl3 : q_168 = true := (by simpa using hc3)
         have S1 := S
         intro v_461 hF_462
         obtain rfl := cndF.neg hF_462 hc3
         replace S1 := S1.put (by decide : 150 < 156) (undef)
         intro v_463 hF_464
         obtain rfl := cndF.neg hF_464 hc3
         replace S1 := S1.put (by decide : 146 < 156) (undef)
         exact RPost.one (v := undef) S1 tys tys_ok rfl (by kernel_rfl) S.defers ⟨fun k_ => absurd k_ hc3, fun _ => rfl⟩ (Below.refl _ _)
       refine RunAll.cons (cndF q_168 false (cndF (t_139.2 == 0) true (eqv (.bool (t_146.1.1 != t_180))))) [(cndF q_168 false (cndF (t_139.2 == 0) true (isI .i64 t_146.1.1)), 149), (cndF q_168 false (cndF (t_139.2 == 0) true (isI .i64 t_180)), 151), (cndF q_168 false (eqv (.bool (t_139.2 == 0))), 146)] rfl rfl ?_ ?_
       ·intro W_ hW
        by_cases hc3 : q_168 = false
        ·have hl3 : q_168 = false := hc3
         by_cases hc4 : (t_139.2 == 0) = true
         ·have hl4 : (t_139.2 == 0) = true := hc4
          have S1 := S
          intro v_465 hF_466
          replace hF_466 := cndF.pos hF_466 hc3
          replace hF_466 := cndF.pos hF_466 hc4
          revert hF_466
          revert v_465
          rintro _ ⟨rfl, hF_467⟩
          replace S1 := S1.put (by decide : 149 < 156) (.int .i64 t_146.1.1)
          intro v_469 hF_470
          replace hF_470 := cndF.pos hF_470 hc3
          replace hF_470 := cndF.pos hF_470 hc4
          revert hF_470
          revert v_469
          rintro _ ⟨rfl, hF_471⟩
          replace S1 := S1.put (by decide : 151 < 156) (.int .i64 t_180)
          intro v_473 hF_474
          replace hF_474 := cndF.pos hF_474 hc3
          revert hF_474
          revert v_473
          intro v_476 hF_475; obtain rfl : .bool (t_139.2 == 0) = v_476 := Eq.symm hF_475
          replace S1 := S1.put (by decide : 146 < 156) (.bool (t_139.2 == 0))
          refine fill_nil S1 ?_; clear S1; intro a_ S1
          rw [show (t_139.2 == 0) = true from hl4] at S1
          exact RPost.one (v := .bool (t_146.1.1 != t_180)) S1 tys tys_ok rfl (by kernel_rfl) S.defers ⟨fun _ => ⟨fun _ => rfl, fun k_ => absurd hc4 k_⟩, fun k_ => absurd hc3 k_⟩ (Below.refl _ _)
         ·have hl4 : (t_139.2 == 0) = false := Bool.eq_false_iff.2 hc4
          have S1 := S
          intro v_477 hF_478
          replace hF_478 := cndF.pos hF_478 hc3
          obtain rfl := cndF.neg hF_478 hc4
          replace S1 := S1.put (by decide : 149 < 156) (undef)
          intro v_479 hF_480
          replace hF_480 := cndF.pos hF_480 hc3
          obtain rfl := cndF.neg hF_480 hc4
          replace S1 := S1.put (by decide : 151 < 156) (undef)
          intro v_481 hF_482
          replace hF_482 := cndF.pos hF_482 hc3
          revert hF_482
          revert v_481
          intro v_484 hF_483; obtain rfl : .bool (t_139.2 == 0) = v_484 := Eq.symm hF_483
          replace S1 := S1.put (by decide : 146 < 156) (.bool (t_139.2 == 0))
          refine fill_nil S1 ?_; clear S1; intro a_ S1
          rw [show (t_139.2 == 0) = false from hl4] at S1
          exact RPost.one (v := undef) S1 tys tys_ok rfl (by kernel_rfl) S.defers ⟨fun _ => ⟨fun k_ => absurd k_ hc4, fun _ => rfl⟩, fun k_ => absurd hc3 k_⟩ (Below.refl _ _)
        ·have hl3 : q_168 = true := (by simpa using hc3)
         have S1 := S
         intro v_485 hF_486
         obtain rfl := cndF.neg hF_486 hc3
         replace S1 := S1.put (by decide : 149 < 156) (undef)
         intro v_487 hF_488
         obtain rfl := cndF.neg hF_488 hc3
         replace S1 := S1.put (by decide : 151 < 156) (undef)
         intro v_489 hF_490
         obtain rfl := cndF.neg hF_490 hc3
         replace S1 := S1.put (by decide : 146 < 156) (undef)
         exact RPost.one (v := undef) S1 tys tys_ok rfl (by kernel_rfl) S.defers ⟨fun k_ => absurd k_ hc3, fun _ => rfl⟩ (Below.refl _ _)
       refine RunAll.cons (cndF q_168 false (eqv (.bool q_176))) [(cndF q_168 false (eqv (.bool (t_139.2 == 0))), 146), (cndF q_168 false (cndF (t_139.2 == 0) true (eqv (.bool (t_146.1.1 != t_180)))), 152), (eqv (.bool q_168), 143)] rfl rfl ?_ ?_
       ·intro W_ hW
        by_cases hc3 : q_168 = false
        ·have hl3 : q_168 = false := hc3
         by_cases hc4 : (t_139.2 == 0) = true
         ·have hl4 : (t_139.2 == 0) = true := hc4
          have S1 := S
          intro v_491 hF_492
          replace hF_492 := cndF.pos hF_492 hc3
          revert hF_492
          revert v_491
          intro v_494 hF_493; obtain rfl : .bool (t_139.2 == 0) = v_494 := Eq.symm hF_493
          replace S1 := S1.put (by decide : 146 < 156) (.bool (t_139.2 == 0))
          intro v_495 hF_496
          replace hF_496 := cndF.pos hF_496 hc3
          replace hF_496 := cndF.pos hF_496 hc4
          revert hF_496
          revert v_495
          intro v_498 hF_497; obtain rfl : .bool (t_146.1.1 != t_180) = v_498 := Eq.symm hF_497
          replace S1 := S1.put (by decide : 152 < 156) (.bool (t_146.1.1 != t_180))
          intro v_500 hF_499; obtain rfl : .bool q_168 = v_500 := Eq.symm hF_499
          replace S1 := S1.put (by decide : 143 < 156) (.bool q_168)
          refine fill_nil S1 ?_; clear S1; intro a_ S1
          rw [show q_168 = false from hl3] at S1
          rw [show (t_139.2 == 0) = true from hl4] at S1
          exact RPost.one (v := .bool (t_146.1.1 != t_180)) S1 tys tys_ok rfl (by kernel_rfl) S.defers ⟨fun _ => (congrArg Value.bool ((HG_177 hc3).1 hc4).2), fun k_ => absurd hc3 k_⟩ (Below.refl _ _)
         ·have hl4 : (t_139.2 == 0) = false := Bool.eq_false_iff.2 hc4
          have S1 := S
          intro v_501 hF_502
          replace hF_502 := cndF.pos hF_502 hc3
          revert hF_502
          revert v_501
          intro v_504 hF_503; obtain rfl : .bool (t_139.2 == 0) = v_504 := Eq.symm hF_503
          replace S1 := S1.put (by decide : 146 < 156) (.bool (t_139.2 == 0))
          intro v_505 hF_506
          replace hF_506 := cndF.pos hF_506 hc3
          obtain rfl := cndF.neg hF_506 hc4
          replace S1 := S1.put (by decide : 152 < 156) (undef)
          intro v_508 hF_507; obtain rfl : .bool q_168 = v_508 := Eq.symm hF_507
          replace S1 := S1.put (by decide : 143 < 156) (.bool q_168)
          refine fill_nil S1 ?_; clear S1; intro a_ S1
          rw [show q_168 = false from hl3] at S1
          rw [show (t_139.2 == 0) = false from hl4] at S1
          exact RPost.one (v := .bool false) S1 tys tys_ok rfl (by kernel_rfl) S.defers ⟨fun _ => (congrArg Value.bool ((HG_177 hc3).2 hc4)), fun k_ => absurd hc3 k_⟩ (Below.refl _ _)
        ·have hl3 : q_168 = true := (by simpa using hc3)
         have S1 := S
         intro v_509 hF_510
         obtain rfl := cndF.neg hF_510 hc3
         replace S1 := S1.put (by decide : 146 < 156) (undef)
         intro v_511 hF_512
         obtain rfl := cndF.neg hF_512 hc3
         replace S1 := S1.put (by decide : 152 < 156) (undef)
         intro v_514 hF_513; obtain rfl : .bool q_168 = v_514 := Eq.symm hF_513
         replace S1 := S1.put (by decide : 143 < 156) (.bool q_168)
         refine fill_nil S1 ?_; clear S1; intro a_ S1
         rw [show q_168 = true from hl3] at S1
         exact RPost.one (v := undef) S1 tys tys_ok rfl (by kernel_rfl) S.defers ⟨fun k_ => absurd k_ hc3, fun _ => rfl⟩ (Below.refl _ _)
       refine RunAll.cons (eqv (.bool q_174)) [(eqv (.bool q_168), 143), (cndF q_168 false (eqv (.bool q_176)), 153)] rfl rfl ?_ ?_
       ·intro W_ hW
        by_cases hc3 : q_168 = false
        ·have hl3 : q_168 = false := hc3
         have S1 := S
         intro v_516 hF_515; obtain rfl : .bool q_168 = v_516 := Eq.symm hF_515
         replace S1 := S1.put (by decide : 143 < 156) (.bool q_168)
         intro v_517 hF_518
         replace hF_518 := cndF.pos hF_518 hc3
         revert hF_518
         revert v_517
         intro v_520 hF_519; obtain rfl : .bool q_176 = v_520 := Eq.symm hF_519
         replace S1 := S1.put (by decide : 153 < 156) (.bool q_176)
         refine fill_nil S1 ?_; clear S1; intro a_ S1
         rw [show q_168 = false from hl3] at S1
         exact RPost.one (v := .bool q_176) S1 tys tys_ok rfl (by kernel_rfl) S.defers (congrArg Value.bool ((HG_175).1 hc3).2) (Below.refl _ _)
        ·have hl3 : q_168 = true := (by simpa using hc3)
         have S1 := S
         intro v_522 hF_521; obtain rfl : .bool q_168 = v_522 := Eq.symm hF_521
         replace S1 := S1.put (by decide : 143 < 156) (.bool q_168)
         intro v_523 hF_524
         obtain rfl := cndF.neg hF_524 hc3
         replace S1 := S1.put (by decide : 153 < 156) (undef)
         refine fill_nil S1 ?_; clear S1; intro a_ S1
         rw [show q_168 = true from hl3] at S1
         exact RPost.one (v := .bool true) S1 tys tys_ok rfl (by kernel_rfl) S.defers (congrArg Value.bool ((HG_175).2 hc3)) (Below.refl _ _)
       exact trivial
      intro w_525 hb_526
      refine EndE.some_ rfl ?_
      rintro _ ⟨rfl, hF_527⟩
      replace S := S.put (by decide : 124 < 156) (.int .i64 t_139.2)
      refine EndE.some_ rfl ?_
      rintro _ ⟨rfl, hF_529⟩
      replace S := S.put (by decide : 125 < 156) (.int .i64 t_146.2)
      refine EndE.some_ rfl ?_
      intro v_532 hF_531; obtain rfl : .bool (t_139.2 != t_146.2) = v_532 := Eq.symm hF_531
      replace S := S.put (by decide : 126 < 156) (.bool (t_139.2 != t_146.2))
      refine EndE.some_ rfl ?_
      intro v_534 hF_533; obtain rfl : .bool (t_139.2 != t_146.2) = v_534 := Eq.symm hF_533
      replace S := S.put (by decide : 127 < 156) (.bool (t_139.2 != t_146.2))
      refine EndE.some_ rfl ?_
      intro v_535 _
      replace S := S.put (by decide : 128 < 156) (v_535)
      refine EndE.some_ rfl ?_
      intro v_536 _
      replace S := S.put (by decide : 129 < 156) (v_536)
      refine EndE.some_ rfl ?_
      intro v_537 _
      replace S := S.put (by decide : 130 < 156) (v_537)
      refine EndE.some_ rfl ?_
      intro v_538 _
      replace S := S.put (by decide : 131 < 156) (v_538)
      refine EndE.some_ rfl ?_
      intro v_539 _
      replace S := S.put (by decide : 132 < 156) (v_539)
      refine EndE.some_ rfl ?_
      intro v_541 hF_540; obtain rfl : .bool q_159 = v_541 := Eq.symm hF_540
      replace S := S.put (by decide : 133 < 156) (.bool q_159)
      refine EndE.some_ rfl ?_
      intro v_543 hF_542; obtain rfl : .bool q_159 = v_543 := Eq.symm hF_542
      replace S := S.put (by decide : 134 < 156) (.bool q_159)
      refine EndE.some_ rfl ?_
      intro v_544 _
      replace S := S.put (by decide : 135 < 156) (v_544)
      refine EndE.some_ rfl ?_
      intro v_545 _
      replace S := S.put (by decide : 136 < 156) (v_545)
      refine EndE.some_ rfl ?_
      intro v_546 _
      replace S := S.put (by decide : 137 < 156) (v_546)
      refine EndE.some_ rfl ?_
      intro v_547 _
      replace S := S.put (by decide : 138 < 156) (v_547)
      refine EndE.some_ rfl ?_
      intro v_548 _
      replace S := S.put (by decide : 139 < 156) (v_548)
      refine EndE.some_ rfl ?_
      intro v_549 _
      replace S := S.put (by decide : 140 < 156) (v_549)
      refine EndE.some_ rfl ?_
      intro v_550 _
      replace S := S.put (by decide : 141 < 156) (v_550)
      refine EndE.some_ rfl ?_
      intro v_552 hF_551; obtain rfl : .bool q_168 = v_552 := Eq.symm hF_551
      replace S := S.put (by decide : 142 < 156) (.bool q_168)
      refine EndE.some_ rfl ?_
      intro v_554 hF_553; obtain rfl : .bool q_168 = v_554 := Eq.symm hF_553
      replace S := S.put (by decide : 143 < 156) (.bool q_168)
      refine EndE.some_ rfl ?_
      intro v_555 _
      replace S := S.put (by decide : 144 < 156) (v_555)
      refine EndE.some_ rfl ?_
      intro v_556 _
      replace S := S.put (by decide : 145 < 156) (v_556)
      refine EndE.some_ rfl ?_
      intro v_557 _
      replace S := S.put (by decide : 146 < 156) (v_557)
      refine EndE.some_ rfl ?_
      intro v_558 _
      replace S := S.put (by decide : 147 < 156) (v_558)
      refine EndE.some_ rfl ?_
      intro v_559 _
      replace S := S.put (by decide : 148 < 156) (v_559)
      refine EndE.some_ rfl ?_
      intro v_560 _
      replace S := S.put (by decide : 149 < 156) (v_560)
      refine EndE.some_ rfl ?_
      intro v_561 _
      replace S := S.put (by decide : 150 < 156) (v_561)
      refine EndE.some_ rfl ?_
      intro v_562 _
      replace S := S.put (by decide : 151 < 156) (v_562)
      refine EndE.some_ rfl ?_
      intro v_563 _
      replace S := S.put (by decide : 152 < 156) (v_563)
      refine EndE.some_ rfl ?_
      intro v_564 _
      replace S := S.put (by decide : 153 < 156) (v_564)
      refine EndE.some_ rfl ?_
      intro v_566 hF_565; obtain rfl : .bool q_174 = v_566 := Eq.symm hF_565
      replace S := S.put (by decide : 154 < 156) (.bool q_174)
      refine endE_nil S ?_; clear S; intro a S
      replace R_138 := R_138.step hb_526
      replace R0 := R0.step hb_526
      replace R_117 := R_117.step hb_526
      replace B_154 := B_154.step hb_526
      replace R_142 := R_142.step hb_526
      replace W := W.step hb_526
      refine then_n ?_
      replace S := S.sub (l' := [(154, .bool q_174), (11, .int .i64 c_113), (0, v0), (7, v_116)]) (by exact ⟨rfl, rfl, rfl, rfl, trivial⟩)
      refine wp_cond_split (S.eval (show ev _ _ = some (.bool q_174) from rfl)) ?_ ?_
      ·intro hc
       rw [if_pos hc] at hl_126
       refine wp_seq ?_
       refine wp_region_lit ?_
       refine wl_pureK (l' := [(6, .bool false)]) S tys tys_ok 1 [6] (by kernel_rfl) ?_
       clear S; intro a S
       refine wpList_nil ?_
       refine then_n ?_
       refine wp_ret ?_
       refine blk_r ?_
       refine then_r ?_
       refine then_r ?_
       refine blk_r ?_
       refine then_r ?_
       refine then_r ?_
       obtain rfl := Option.some.inj hl_126
       obtain rfl := lr_inr h
       exact b_ret1 S rfl rfl ⟨_, rfl, RepV.mkBool, W.below⟩
      ·intro hc
       rw [if_neg (Bool.eq_false_iff.1 hc)] at hl_126
       refine wp_skip ?_
       refine blk_n ?_
       refine then_n ?_
       replace S := S.sub (l' := [(11, .int .i64 c_113), (0, v0), (7, v_116)]) (by exact ⟨rfl, rfl, rfl, trivial⟩)
       refine wp_region_lit ?_
       refine wl_pure (l' := [(106, .int .i64 c_113), (11, .int .i64 c_113), (0, v0), (7, v_116)]) S tys tys_ok 1 (by kernel_rfl) ?_
       clear S; intro a S
       obtain ⟨x_567, ex_567, hl_126⟩ := bindS hl_126
       refine w_go S rfl (op_arith S .i64 (c_113 + 1) rfl (.inl rfl) rfl rfl rfl rfl ex_567 ?_)
       clear S; intro a S
       refine wl_pure (l' := [(11, .int .i64 x_567), (107, .int .i64 x_567), (106, .int .i64 c_113), (11, .int .i64 c_113), (0, v0), (7, v_116)]) S tys tys_ok 1 (by kernel_rfl) ?_
       clear S; intro a S
       refine wpList_nil ?_
       refine then_n ?_
       exact ⟨x_567, c_115, ⟨v_116, S.sub (by exact ⟨rfl, rfl, rfl, trivial⟩), (W.drop 2), (ckI_some ex_567).2.1, (R0.drop 2), (R_117.drop 2), hl_126⟩⟩
     ·intro hc
      rw [if_neg (Bool.eq_false_iff.1 hc)] at hl_126
      refine wp_exit ?_
      refine then_x ?_
      refine then_x ?_
      refine blk_hit ?_
      refine then_n ?_
      obtain rfl := Option.some.inj hl_126
      exact ⟨_, rfl, ⟨S.sub trivial, W⟩⟩
  clear S W; rintro a w_568 ⟨s_124, rfl, S, W⟩
  replace h := lr_inl h; try dsimp only at h
  refine then_n ?_
  refine wp_seq ?_
  refine wp_region_lit ?_
  obtain ⟨t_569, et_569, h⟩ := bindS h
  refine w_go S rfl (op_call (vs := []) S rfl cb8 rfl rfl rfl (c8 (Kx K w.heap.size []) n w_568  et_569) ?_)
  rintro _ w_573 ⟨v_570, rfl, R_571, hb_572⟩; refine ⟨_, rfl, ?_⟩
  replace R_571 := RepV.back R_571 W
  clear S; intro a S
  replace W := W.step hb_572
  obtain rfl := RepV.bool R_571
  refine wl_pure (l' := [(6, .bool t_569), (155, .bool t_569)]) S tys tys_ok 1 (by kernel_rfl) ?_
  clear S; intro a S
  refine wpList_nil ?_
  refine then_n ?_
  replace S := S.sub (l' := [(6, .bool t_569)]) (by exact ⟨rfl, trivial⟩)
  refine wp_ret ?_
  obtain rfl := Option.some.inj h
  exact b_ret1 S rfl rfl ⟨_, rfl, RepV.mkBool, W.below⟩

end Go.Proofs.Ytlgalcekkffhnaa
