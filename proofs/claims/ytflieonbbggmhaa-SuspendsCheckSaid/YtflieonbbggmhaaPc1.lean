/- Functions of the program, as plain data. -/
import Derived.Test.YtflieonbbggmhaaP3
set_option linter.unusedVariables false
set_option linter.unusedSimpArgs false
namespace Go.Proofs.Ytflieonbbggmhaa
open Go.RowKit

def p5_l1 (n : Nat) (x_25 : Int) : Nat → (Int) → (List ((Sl (Int)) × Bool × Bool × Bool × Int)) → Option ((List ((Sl (Int)) × Bool × Bool × Bool × Int)))
 | 0, _, _ => .none
 | m + 1, c_26, c_28 => if (decide (c_26 < x_25)) then ((quoI .u8 (IntKind.wrap .u8 c_26) 49).bind fun x_42 => (remI .u8 x_42 7).bind fun x_43 => (quoI .u8 (IntKind.wrap .u8 c_26) 7).bind fun x_44 => (remI .u8 x_44 7).bind fun x_45 => (remI .u8 (IntKind.wrap .u8 c_26) 7).bind fun x_46 => (appI c_28 ([((⟨[7, IntKind.wrap .u8 (1 + x_43), IntKind.wrap .u8 (1 + x_45), IntKind.wrap .u8 (1 + x_46)], some 4⟩ : Sl (Int)), false, false, false, 0)])).bind fun l_57 => (ckI .i64 (c_26 + 1)).bind fun x_62 => p5_l1 n x_25 m x_62 l_57) else some c_28
def p5_l2 (n : Nat)  : Nat → (Int) → (Int) → (Sl ((Sl (Int)) × Bool × Bool × Bool × Int)) → Option ((Sl ((Sl (Int)) × Bool × Bool × Bool × Int)) × (Int))
 | 0, _, _, _ => .none
 | m + 1, c_64, c_66, c_68 => if (decide (c_64 < (lenI c_68))) then ((idx c_68.xs c_64).bind fun y_87 => (if (decide ((lenI y_87.1) > 0)) = true then (p13 n y_87.1).bind fun t_105 => some (t_105 == 0) else some false).bind fun q_102 => (if q_102 = true then some (decide (y_87.2.2.2.2 ≥ 0)) else some false).bind fun q_111 => (if q_111 = true then (if (y_87.2.2.2.2 == 0) = false then (if (!y_87.2.1) = true then some (!y_87.2.2.2.1) else some false).bind fun q_120 => some q_120 else some true).bind fun q_117 => some q_117 else some false).bind fun q_114 => (if q_114 = true then (if y_87.2.1 = true then some y_87.2.2.2.1 else some false).bind fun q_126 => some (!q_126) else some false).bind fun q_123 => (if q_123 = true then (if (c_64 == 0) = false then (ckI .i64 (c_64 - 1)).bind fun x_133 => (idx c_68.xs x_133).bind fun y_134 => (p14 n y_134.1 y_87.1).bind fun t_142 => some t_142 else some true).bind fun q_131 => some q_131 else some false).bind fun q_129 => (if q_129 = true then some (decide ((lenI y_87.1) > 1)) else some false).bind fun q_399 => (if q_399 then ((slI c_68 0 c_64).bind fun s_406 => (ckI .i64 ((lenI y_87.1) - 1)).bind fun x_412 => (slI y_87.1 0 x_412).bind fun s_415 => (p10 n s_406 s_415).bind fun t_416 => (if (decide (t_416 ≥ 0)) = true then (if y_87.2.2.2.1 = false then (idx c_68.xs t_416).bind fun y_486 => some (!y_486.2.2.2.1) else some true).bind fun q_485 => some q_485 else some false).bind fun q_482 => some q_482) else some q_129).bind fun (j_403 : (Bool)) => (if (!j_403) then (some 1) else some c_66).bind fun (j_493 : (Int)) => (ckI .i64 (c_64 + 1)).bind fun x_496 => p5_l2 n m x_496 j_493 c_68) else some (c_68, c_66)
def p5 (n : Nat) (x0 : Sl ((Sl (Int)) × Bool × Bool × Bool × Int)) (x1 : Sl (Int)) (x2 : List (Int)) : Option ((Bool)) :=
 (if (decide ((lenI x0) > 12)) = false then some (decide ((lenI x1) > 12)) else some true).bind fun q_6 =>
 if q_6 then ((p8 n).bind fun t_8 => some t_8) else (appI ([] : List ((Sl (Int)) × Bool × Bool × Bool × Int)) x0.xs).bind fun l_17 => (idx x2 0).bind fun y_22 => (remI .i64 y_22 130).bind fun x_25 => (p5_l1 n x_25 n 0 l_17).bind fun (y_36 : (List ((Sl (Int)) × Bool × Bool × Bool × Int))) => (p5_l2 n n 0 0 (⟨y_36, .none⟩ : Sl ((Sl (Int)) × Bool × Bool × Bool × Int))).bind fun (y_78 : (Sl ((Sl (Int)) × Bool × Bool × Bool × Int)) × (Int)) => (if (decide ((lenI y_78.1) > 127)) then (some 3) else some y_78.2).bind fun (j_499 : (Int)) => (p15 n y_78.1 x1 true).bind fun t_502 => (p16 n y_78.1 x1).bind fun t_511 => (p17 n y_78.1 x1 true).bind fun t_518 => (p18 n y_78.1 x1).bind fun t_527 => (idx x2 1).bind fun y_536 => (p12 n y_78.1 y_536).bind fun t_539 => (p19 n y_78.1).bind fun t_548 => if (t_548 != j_499) then (some false) else if (j_499 != 0) then ((if (t_502.2.2 == j_499) = true then some (t_511.2 == j_499) else some false).bind fun q_553 => (if q_553 = true then some (t_518.2.2 == j_499) else some false).bind fun q_554 => (if q_554 = true then some (t_527.2.2 == j_499) else some false).bind fun q_555 => (if q_555 = true then some (t_539.2.2 == j_499) else some false).bind fun q_556 => (if q_556 = true then (ckI .i64 ((lenI t_502.1) + (lenI (⟨t_511.1.xs, t_511.1.cap⟩ : Sl ((Sl (Int)) × Bool × Bool × Bool × Int))))).bind fun x_560 => (ckI .i64 (x_560 + (lenI (⟨t_518.1.xs, t_518.1.cap⟩ : Sl ((Sl (Int)) × Bool × Bool × Bool × Int))))).bind fun x_562 => (ckI .i64 (x_562 + (lenI (⟨t_527.1.xs, t_527.1.cap⟩ : Sl ((Sl (Int)) × Bool × Bool × Bool × Int))))).bind fun x_564 => (ckI .i64 (x_564 + (lenI (⟨t_539.1.xs, t_539.1.cap⟩ : Sl ((Sl (Int)) × Bool × Bool × Bool × Int))))).bind fun x_566 => some (x_566 == 0) else some false).bind fun q_557 => (if q_557 = true then (p8 n).bind fun t_568 => some t_568 else some false).bind fun q_567 => some q_567) else (p10 n y_78.1 x1).bind fun t_574 => (if ((lenI x1) == 0) = false then (p13 n x1).bind fun t_581 => some (t_581 != 0) else some true).bind fun q_580 => if q_580 then ((if (t_502.2.2 == 1) = true then some (t_511.2 == 7) else some false).bind fun q_587 => (if q_587 = true then some (t_518.2.2 == 7) else some false).bind fun q_588 => (if q_588 = true then some (t_527.2.2 == 7) else some false).bind fun q_589 => (if q_589 = true then (p8 n).bind fun t_591 => some t_591 else some false).bind fun q_590 => some q_590) else (if (!((decide (t_574 ≥ 0)) == (t_502.2.2 == 8))) = false then some (!((decide (t_574 ≥ 0)) == (t_511.2 == 0))) else some true).bind fun q_597 => (if q_597 = false then some (!((decide (t_574 ≥ 0)) == (t_518.2.2 == 0))) else some true).bind fun q_598 => (if q_598 = false then some ((decide (t_574 ≥ 0)) == (t_527.2.2 == 7)) else some true).bind fun q_599 => (if q_599 = false then some (t_502.2.2 == 1) else some true).bind fun q_600 => if q_600 then (some false) else (idx x2 1).bind fun y_601 => (if ((decide (y_601 < 1)) == (t_539.2.2 == 1)) = true then (if (t_539.2.2 == 0) = false then some (t_539.2.2 == 1) else some true).bind fun q_605 => some q_605 else some false).bind fun q_604 => (if q_604 = true then (p8 n).bind fun t_607 => some t_607 else some false).bind fun q_606 => some q_606
set_option maxHeartbeats 4000000 in
set_option maxRecDepth 100000 in
/-- plugboard/plugboardlaw32.SuspendsCheck -/
theorem c5 (K : Nat → Prop) (n : Nat) (w : World) (x0 : Sl ((Sl (Int)) × Bool × Bool × Bool × Int)) (v0 : Value) (R0 : RepV (.sl gt2) w K v0 x0) (x1 : Sl (Int)) (v1 : Value) (R1 : RepV (.sl (.int .u8)) w K v1 x1) (x2 : List (Int)) (v2 : Value) (R2 : RepV (.arr 2 (.int .i64)) w K v2 x2) {r : (Bool)} (h : p5 n x0 x1 x2 = some r) :
  Calls Try.prog 5 #[v0, v1, v2] w (Ret1 .bool w (Kx K w.heap.size []) r) := by
 refine enter (args := [v0, v1, v2]) Try.func5 rfl 327 rfl rfl fun a S => ?_
 have W := Wd.start w
 replace R0 := R0.arg
 replace R1 := R1.arg
 replace R2 := R2.arg
 unfold p5 at h
 replace S : St 327 a [(0, v0), (1, v1), (2, v2)] := S
 refine wp_seq ?_
 refine wp_region_lit ?_
 refine w_go S rfl (op_box S rfl rfl rfl rfl rfl R2 ?_)
 clear S; intro a w_3 b_1 hb_4 B_2 S
 replace R0 := R0.box hb_4
 replace R1 := R1.box hb_4
 replace R2 := R2.box hb_4
 replace W := W.box hb_4
 refine wl_pure (l' := [(6, .bool false), (5, pB b_1), (0, v0), (1, v1), (2, v2)]) S tys tys_ok 1 (by kernel_rfl) ?_
 clear S; intro a S
 refine wpList_nil ?_
 refine then_n ?_
 replace S := S.sub (l' := [(5, pB b_1), (0, v0), (1, v1)]) (by exact ⟨rfl, rfl, rfl, trivial⟩)
 refine wp_seq ?_
 refine wp_seq ?_
 refine wp_region_lit ?_
 refine wl_pure (l' := [(30, v0), (5, pB b_1), (0, v0), (1, v1)]) S tys tys_ok 1 (by kernel_rfl) ?_
 clear S; intro a S
 refine w_go S rfl (op_len (K := _) S rfl ty25 rfl rfl rfl R0 ?_)
 clear S; intro a G_5 S
 refine wl_pureK (l' := [(33, .bool (decide ((lenI x0) > 12))), (5, pB b_1), (0, v0), (1, v1)]) S tys tys_ok 2 [33, 5, 0, 1] (by kernel_rfl) ?_
 clear S; intro a S
 obtain ⟨q_6, eq_6, h⟩ := bindS h
 refine seg 4 (fun a_ w_ => w_3 = w_ ∧ St 327 a_ [(37, .bool q_6), (5, pB b_1), (0, v0), (1, v1)]) ?_ ?_
 ·by_cases hc : (decide ((lenI x0) > 12)) = false
  ·rw [if_pos hc] at eq_6; rw [hc] at S
   refine wl_pure (l' := [(34, v1), (33, .bool false), (5, pB b_1), (0, v0), (1, v1)]) S tys tys_ok 1 (by kernel_rfl) ?_
   clear S; intro a S
   refine w_go S rfl (op_len (K := _) S rfl ty35 rfl rfl rfl R1 ?_)
   clear S; intro a G_7 S
   refine wl_pureK (l' := [(37, .bool (decide ((lenI x1) > 12))), (5, pB b_1), (0, v0), (1, v1)]) S tys tys_ok 2 [37, 5, 0, 1] (by kernel_rfl) ?_
   clear S; intro a S
   obtain rfl := Option.some.inj eq_6
   exact ⟨rfl, S.sub (by exact ⟨rfl, rfl, rfl, rfl, trivial⟩)⟩
  ·rw [if_neg hc] at eq_6; rw [show (decide ((lenI x0) > 12)) = true from (by simpa using hc)] at S
   refine wl_pureK (l' := [(37, .bool true), (5, pB b_1), (0, v0), (1, v1)]) S tys tys_ok 4 [37, 5, 0, 1] (by kernel_rfl) ?_
   clear S; intro a S
   obtain rfl := Option.some.inj eq_6
   exact ⟨rfl, S.sub (by exact ⟨rfl, rfl, rfl, rfl, trivial⟩)⟩
 clear S eq_6; rintro a _ ⟨rfl, S⟩
 refine wpList_nil ?_
 refine then_n ?_
 refine wp_cond_split (S.eval (show ev _ _ = some (.bool q_6) from rfl)) ?_ ?_
 ·intro hc
  rw [if_pos hc] at h
  refine wp_seq ?_
  refine wp_region_lit ?_
  obtain ⟨t_8, et_8, h⟩ := bindS h
  refine w_go S rfl (op_call (vs := []) S rfl cb8 rfl rfl rfl (c8 (Kx K w.heap.size [some b_1]) n w_3  et_8) ?_)
  rintro _ w_12 ⟨v_9, rfl, R_10, hb_11⟩; refine ⟨_, rfl, ?_⟩
  replace R_10 := RepV.back R_10 W
  clear S; intro a S
  replace R0 := R0.step hb_11
  replace R1 := R1.step hb_11
  replace B_2 := B_2.step hb_11
  replace W := W.step hb_11
  obtain rfl := RepV.bool R_10
  refine wl_pureK (l' := [(6, .bool t_8)]) S tys tys_ok 1 [6] (by kernel_rfl) ?_
  clear S; intro a S
  refine wpList_nil ?_
  refine then_n ?_
  refine wp_ret ?_
  refine then_r ?_
  obtain rfl := Option.some.inj h
  exact b_ret1 S rfl rfl ⟨_, rfl, RepV.mkBool, W.below⟩
 ·intro hc
  rw [if_neg (Bool.eq_false_iff.1 hc)] at h
  refine wp_skip ?_
  refine then_n ?_
  replace S := S.sub (l' := [(5, pB b_1), (0, v0), (1, v1)]) (by exact ⟨rfl, rfl, rfl, trivial⟩)
  refine wp_seq ?_
  refine wp_region_lit ?_
  refine w_go S rfl (op_row0 (K := K) (e := gt2) (E := 37) S W rfl ty25 un25 rfl rfl ?_)
  clear S; intro a w_14 b_13 hb_15 O_16 S
  replace R0 := R0.box hb_15
  replace R1 := R1.box hb_15
  replace B_2 := B_2.box hb_15
  replace W := W.box hb_15
  replace O_16 : Ow gt2 37 w_14 w.heap.size (Kx K w.heap.size [some b_13, some b_1]) (.slice (some ⟨b_13, 0, .none⟩) 0 0) ([] : List ((Sl (Int)) × Bool × Bool × Bool × Int)) (some 0) := O_16
  refine wl_pure (l' := [(40, v0), (39, (.slice (some ⟨b_13, 0, .none⟩) 0 0)), (5, pB b_1), (0, v0), (1, v1)]) S tys tys_ok 1 (by kernel_rfl) ?_
  clear S; intro a S
  obtain ⟨l_17, el_17, h⟩ := bindS h
  refine w_go S rfl (op_append S W (E := 37) 0 rfl ty25 un25 by25 rfl rfl rfl rfl O_16 rfl R0 el_17 ?_)
  clear S; intro a w_19 v_18 A_20 O_21 S
  replace R0 : RepV (.sl gt2) w_19 (Kx K w.heap.size [v_18.ownBlock, some b_1]) v0 x0 := R0.apd A_20 (i := 0) rfl
  replace R1 : RepV (.sl (.int .u8)) w_19 (Kx K w.heap.size [v_18.ownBlock, some b_1]) v1 x1 := R1.apd A_20 (i := 0) rfl
  replace B_2 : Bx (.arr 2 (.int .i64)) 44 w_19 (Kx K w.heap.size [v_18.ownBlock, some b_1]) b_1 x2 := B_2.apd W A_20 (i := 0) rfl (j := 1) rfl (by decide)
  replace W : Wd w w_19 [v_18.ownBlock, some b_1] := W.apd A_20 (i := 0) rfl
  replace O_21 : Ow gt2 37 w_19 w.heap.size (Kx K w.heap.size [v_18.ownBlock, some b_1]) v_18 l_17 (capA (some 0) l_17.length) := O_21
  refine wl_pureK (l' := [(7, v_18), (5, pB b_1), (1, v1)]) S tys tys_ok 1 [7, 5, 1] (by kernel_rfl) ?_
  clear S; intro a S
  refine wpList_nil ?_
  refine then_n ?_
  refine wp_seq ?_
  refine wp_region_lit ?_
  obtain ⟨y_22, ey_22, h⟩ := bindS h
  refine w_go S rfl (op_indexAddr_arr S rfl ty44 rfl rfl rfl B_2.at_ rfl ey_22 ?_)
  clear S; intro a S
  refine w_go S rfl (op_load (t := (.int .i64)) (x := y_22) S rfl ty3 rfl rfl rfl (RepAt.ix B_2.at_ ey_22) ?_)
  clear S; intro a v_23 R_24 S
  obtain ⟨rfl, GR_24⟩ := RepV.int R_24
  obtain ⟨x_25, ex_25, h⟩ := bindS h
  refine w_go S rfl (op_rem S .i64 rfl rfl rfl rfl rfl ex_25 ?_)
  clear S; intro a S
  refine wl_pureK (l' := [(8, .int .i64 x_25), (7, v_18), (5, pB b_1), (1, v1)]) S tys tys_ok 1 [8, 7, 5, 1] (by kernel_rfl) ?_
  clear S; intro a S
  refine wpList_nil ?_
  refine then_n ?_
  refine wp_seq ?_
  refine wp_seq ?_
  refine wp_region_lit ?_
  refine wl_pure (l' := [(9, .int .i64 0), (8, .int .i64 x_25), (7, v_18), (5, pB b_1), (1, v1)]) S tys tys_ok 1 (by kernel_rfl) ?_
  clear S; intro a S
  refine wpList_nil ?_
  refine then_n ?_
  obtain ⟨y_36, ey_36, h⟩ := bindS h
  refine wp_cut_ (fun a_ w_ => ∃ (v_37 : Value), St 327 a_ [(1, v1), (5, pB b_1), (7, v_37)] ∧ Wd w w_ [v_37.ownBlock, some b_1] ∧ RepV (.sl (.int .u8)) w_ (Kx K w.heap.size [v_37.ownBlock, some b_1]) v1 x1 ∧ Bx (.arr 2 (.int .i64)) 44 w_ (Kx K w.heap.size [v_37.ownBlock, some b_1]) b_1 x2 ∧ Ow gt2 37 w_ w.heap.size (Kx K w.heap.size [v_37.ownBlock, some b_1]) v_37 y_36 .none) ?_ ?_
  ·refine wp_block ?_
   refine wp_loop_n (fun m_ a_ w_ => ∃ (c_26 : Int) (c_28 : List ((Sl (Int)) × Bool × Bool × Bool × Int)) , ∃ (v_29 : Value), St 327 a_ [(9, .int .i64 c_26), (8, .int .i64 x_25), (7, v_29), (5, pB b_1), (1, v1)] ∧ Wd w w_ [v_29.ownBlock, some b_1] ∧ InR .i64 c_26 ∧ RepV (.sl (.int .u8)) w_ (Kx K w.heap.size [v_29.ownBlock, some b_1]) v1 x1 ∧ Bx (.arr 2 (.int .i64)) 44 w_ (Kx K w.heap.size [v_29.ownBlock, some b_1]) b_1 x2 ∧ Ow gt2 37 w_ w.heap.size (Kx K w.heap.size [v_29.ownBlock, some b_1]) v_29 c_28 .none ∧ p5_l1 n x_25 m_ c_26 c_28 = some y_36) n ?_ ?_
   ·skip
    exact ⟨0, l_17, ⟨v_18, S.sub (by exact ⟨rfl, rfl, rfl, rfl, rfl, trivial⟩), W, (by decide), R1, B_2, O_21.forget, ey_36⟩⟩
   ·clear S W; rintro m_39 a w_41 ⟨c_26, c_28, v_29, S, W, G_27, R1, B_2, O_30, hl_40⟩
    cases m_39 with
    | zero => exact absurd hl_40 (by simp [p5_l1])
    | succ m_39 =>
     refine ⟨m_39, rfl, ?_⟩
     rw [p5_l1] at hl_40
     refine wp_seq ?_
     refine wp_seq ?_
     refine wp_region_lit ?_
     refine wl_pure (l' := [(47, .bool (decide (c_26 < x_25))), (46, .int .i64 x_25), (45, .int .i64 c_26), (9, .int .i64 c_26), (8, .int .i64 x_25), (7, v_29), (5, pB b_1), (1, v1)]) S tys tys_ok 3 (by kernel_rfl) ?_
     clear S; intro a S
     refine wpList_nil ?_
     refine then_n ?_
     replace S := S.sub (l' := [(47, .bool (decide (c_26 < x_25))), (9, .int .i64 c_26), (8, .int .i64 x_25), (7, v_29), (5, pB b_1), (1, v1)]) (by exact ⟨rfl, rfl, rfl, rfl, rfl, rfl, trivial⟩)
     refine wp_cond_split (S.eval (show ev _ _ = some (.bool (decide (c_26 < x_25))) from rfl)) ?_ ?_
     ·intro hc
      rw [if_pos hc] at hl_40
      refine wp_skip ?_
      refine then_n ?_
      replace S := S.sub (l' := [(9, .int .i64 c_26), (8, .int .i64 x_25), (7, v_29), (5, pB b_1), (1, v1)]) (by exact ⟨rfl, rfl, rfl, rfl, rfl, trivial⟩)
      refine wp_seq ?_
      refine wp_block ?_
      refine wp_region_lit ?_
      refine wl_pure (l' := [(52, .int .u8 (IntKind.wrap .u8 c_26)), (51, .int .i64 c_26), (50, v_29), (9, .int .i64 c_26), (8, .int .i64 x_25), (7, v_29), (5, pB b_1), (1, v1)]) S tys tys_ok 3 (by kernel_rfl) ?_
      clear S; intro a S
      obtain ⟨x_42, ex_42, hl_40⟩ := bindS hl_40
      refine w_go S rfl (op_quo S .u8 rfl rfl rfl rfl rfl ex_42 ?_)
      clear S; intro a S
      obtain ⟨x_43, ex_43, hl_40⟩ := bindS hl_40
      refine w_go S rfl (op_rem S .u8 rfl rfl rfl rfl rfl ex_43 ?_)
      clear S; intro a S
      refine wl_pureK (l' := [(57, .int .u8 (IntKind.wrap .u8 c_26)), (55, .int .u8 (IntKind.wrap .u8 (1 + x_43))), (50, v_29), (9, .int .i64 c_26), (8, .int .i64 x_25), (7, v_29), (5, pB b_1), (1, v1)]) S tys tys_ok 3 [57, 55, 50, 9, 8, 7, 5, 1] (by kernel_rfl) ?_
      clear S; intro a S
      obtain ⟨x_44, ex_44, hl_40⟩ := bindS hl_40
      refine w_go S rfl (op_quo S .u8 rfl rfl rfl rfl rfl ex_44 ?_)
      clear S; intro a S
      obtain ⟨x_45, ex_45, hl_40⟩ := bindS hl_40
      refine w_go S rfl (op_rem S .u8 rfl rfl rfl rfl rfl ex_45 ?_)
      clear S; intro a S
      refine wl_pureK (l' := [(62, .int .u8 (IntKind.wrap .u8 c_26)), (60, .int .u8 (IntKind.wrap .u8 (1 + x_45))), (55, .int .u8 (IntKind.wrap .u8 (1 + x_43))), (50, v_29), (9, .int .i64 c_26), (8, .int .i64 x_25), (7, v_29), (5, pB b_1), (1, v1)]) S tys tys_ok 3 [62, 60, 55, 50, 9, 8, 7, 5, 1] (by kernel_rfl) ?_
      clear S; intro a S
      obtain ⟨x_46, ex_46, hl_40⟩ := bindS hl_40
      refine w_go S rfl (op_rem S .u8 rfl rfl rfl rfl rfl ex_46 ?_)
      clear S; intro a S
      refine wl_pure (l' := [(64, .int .u8 (IntKind.wrap .u8 (1 + x_46))), (63, .int .u8 x_46), (62, .int .u8 (IntKind.wrap .u8 c_26)), (60, .int .u8 (IntKind.wrap .u8 (1 + x_45))), (55, .int .u8 (IntKind.wrap .u8 (1 + x_43))), (50, v_29), (9, .int .i64 c_26), (8, .int .i64 x_25), (7, v_29), (5, pB b_1), (1, v1)]) S tys tys_ok 1 (by kernel_rfl) ?_
      clear S; intro a S
      refine w_go S rfl (op_buildSlice (K := K) (e := (.int .u8)) (vs := [.int .u8 7, .int .u8 (IntKind.wrap .u8 (1 + x_43)), .int .u8 (IntKind.wrap .u8 (1 + x_45)), .int .u8 (IntKind.wrap .u8 (1 + x_46))]) (xs := [7, IntKind.wrap .u8 (1 + x_43), IntKind.wrap .u8 (1 + x_45), IntKind.wrap .u8 (1 + x_46)]) S W rfl ty35 rfl rfl (by kernel_rfl) rfl rfl rfl rfl rfl ⟨(RepV.mkInt (by decide)), (RepV.mkInt (inR_wrap _ _)), (RepV.mkInt (inR_wrap _ _)), (RepV.mkInt (inR_wrap _ _)), trivial⟩ ?_)
      clear S; intro a w_50 v_47 hb_49 R_48 S
      replace R1 := R1.step hb_49
      replace B_2 := B_2.step hb_49
      replace O_30 := O_30.step hb_49
      replace W := W.step hb_49
      refine w_go S rfl (op_build (K := (Kx K w.heap.size [v_29.ownBlock, some b_1])) (f := gf2) (z0 := (⟨[], some 0⟩, false, false, false, 0)) (x := ((⟨[7, IntKind.wrap .u8 (1 + x_43), IntKind.wrap .u8 (1 + x_45), IntKind.wrap .u8 (1 + x_46)], some 4⟩ : Sl (Int)), false, false, false, 0)) (vs := [v_47]) S _ rfl ty37 z37 (fun w K => ⟨[.slice .none 0 0], [.bool false, .bool false, .bool false, .int .i64 0], rfl, ⟨.none, 0, 0, rfl, rfl, Nat.le_refl _, by decide, fun k h => Option.some.inj h, .inl rfl⟩, ⟨[.bool false], [.bool false, .bool false, .int .i64 0], rfl, rfl, ⟨[.bool false], [.bool false, .int .i64 0], rfl, rfl, ⟨[.bool false], [.int .i64 0], rfl, rfl, ⟨rfl, by decide⟩⟩⟩⟩⟩) rfl rfl rfl [(0, v_47)] rfl ⟨_, R_48, rfl, rfl, rfl⟩ ?_)
      clear S; intro a v_51 R_52 S
      refine w_go S rfl (op_buildSlice (K := K) (e := gt2) (vs := [v_51]) (xs := [((⟨[7, IntKind.wrap .u8 (1 + x_43), IntKind.wrap .u8 (1 + x_45), IntKind.wrap .u8 (1 + x_46)], some 4⟩ : Sl (Int)), false, false, false, 0)]) S W rfl ty25 rfl rfl (by kernel_rfl) rfl rfl rfl rfl rfl ⟨R_52, trivial⟩ ?_)
      clear S; intro a w_56 v_53 hb_55 R_54 S
      replace R1 := R1.step hb_55
      replace R_48 := R_48.step hb_55
      replace R_52 := R_52.step hb_55
      replace B_2 := B_2.step hb_55
      replace O_30 := O_30.step hb_55
      replace W := W.step hb_55
      obtain ⟨l_57, el_57, hl_40⟩ := bindS hl_40
      refine w_go S rfl (op_append S W (E := 37) 0 rfl ty25 un25 by25 rfl rfl rfl rfl O_30 rfl R_54 el_57 ?_)
      clear S; intro a w_59 v_58 A_60 O_61 S
      replace R1 : RepV (.sl (.int .u8)) w_59 (Kx K w.heap.size [v_58.ownBlock, some b_1]) v1 x1 := R1.apd A_60 (i := 0) rfl
      replace R_48 : RepV (.sl (.int .u8)) w_59 (Kx K w.heap.size [v_58.ownBlock, some b_1]) v_47 (⟨[7, IntKind.wrap .u8 (1 + x_43), IntKind.wrap .u8 (1 + x_45), IntKind.wrap .u8 (1 + x_46)], some 4⟩ : Sl (Int)) := R_48.apd A_60 (i := 0) rfl
      replace R_52 : RepV gt2 w_59 (Kx K w.heap.size [v_58.ownBlock, some b_1]) v_51 ((⟨[7, IntKind.wrap .u8 (1 + x_43), IntKind.wrap .u8 (1 + x_45), IntKind.wrap .u8 (1 + x_46)], some 4⟩ : Sl (Int)), false, false, false, 0) := R_52.apd A_60 (i := 0) rfl
      replace R_54 : RepV (.sl gt2) w_59 (Kx K w.heap.size [v_58.ownBlock, some b_1]) v_53 (⟨[((⟨[7, IntKind.wrap .u8 (1 + x_43), IntKind.wrap .u8 (1 + x_45), IntKind.wrap .u8 (1 + x_46)], some 4⟩ : Sl (Int)), false, false, false, 0)], some 1⟩ : Sl ((Sl (Int)) × Bool × Bool × Bool × Int)) := R_54.apd A_60 (i := 0) rfl
      replace B_2 : Bx (.arr 2 (.int .i64)) 44 w_59 (Kx K w.heap.size [v_58.ownBlock, some b_1]) b_1 x2 := B_2.apd W A_60 (i := 0) rfl (j := 1) rfl (by decide)
      replace W : Wd w w_59 [v_58.ownBlock, some b_1] := W.apd A_60 (i := 0) rfl
      replace O_61 : Ow gt2 37 w_59 w.heap.size (Kx K w.heap.size [v_58.ownBlock, some b_1]) v_58 l_57 (capA .none l_57.length) := O_61
      refine wl_pureK (l' := [(7, v_58), (9, .int .i64 c_26), (8, .int .i64 x_25), (7, v_29), (5, pB b_1), (1, v1)]) S tys tys_ok 1 [7, 9, 8, 5, 1] (by kernel_rfl) ?_
      clear S; intro a S
      refine wpList_nil ?_
      refine blk_n ?_
      refine then_n ?_
      refine wp_region_lit ?_
      refine wl_pure (l' := [(48, .int .i64 c_26), (7, v_58), (9, .int .i64 c_26), (8, .int .i64 x_25), (7, v_29), (5, pB b_1), (1, v1)]) S tys tys_ok 1 (by kernel_rfl) ?_
      clear S; intro a S
      obtain ⟨x_62, ex_62, hl_40⟩ := bindS hl_40
      refine w_go S rfl (op_arith S .i64 (c_26 + 1) rfl (.inl rfl) rfl rfl rfl rfl ex_62 ?_)
      clear S; intro a S
      refine wl_pure (l' := [(9, .int .i64 x_62), (49, .int .i64 x_62), (48, .int .i64 c_26), (7, v_58), (9, .int .i64 c_26), (8, .int .i64 x_25), (7, v_29), (5, pB b_1), (1, v1)]) S tys tys_ok 1 (by kernel_rfl) ?_
      clear S; intro a S
      refine wpList_nil ?_
      refine then_n ?_
      exact ⟨x_62, l_57, ⟨v_58, S.sub (by exact ⟨rfl, rfl, rfl, rfl, rfl, trivial⟩), W, (ckI_some ex_62).2.1, R1, B_2, O_61.forget, hl_40⟩⟩
     ·intro hc
      rw [if_neg (Bool.eq_false_iff.1 hc)] at hl_40
      refine wp_exit ?_
      refine then_x ?_
      refine then_x ?_
      refine blk_hit ?_
      refine then_n ?_
      obtain rfl := Option.some.inj hl_40
      exact ⟨v_29, S.sub (by exact ⟨rfl, rfl, rfl, trivial⟩), W, R1, B_2, O_30⟩
  clear S W; rintro a w_63 ⟨v_37, S, W, R1, B_2, O_38⟩
  refine then_n ?_
  refine wp_seq ?_
  refine wp_region_lit ?_
  refine wl_pure (l' := [(10, .int .i64 0), (1, v1), (5, pB b_1), (7, v_37)]) S tys tys_ok 1 (by kernel_rfl) ?_
  clear S; intro a S
  refine wpList_nil ?_
  refine then_n ?_
  refine wp_seq ?_
  refine wp_seq ?_
  refine wp_region_lit ?_
  refine wl_pure (l' := [(11, .int .i64 0), (10, .int .i64 0), (1, v1), (5, pB b_1), (7, v_37)]) S tys tys_ok 1 (by kernel_rfl) ?_
  clear S; intro a S
  refine wpList_nil ?_
  refine then_n ?_
  obtain ⟨y_78, ey_78, h⟩ := bindS h
  refine wp_cut_ (fun a_ w_ => ∃ (v_79 : Value), St 327 a_ [(1, v1), (5, pB b_1), (7, v_79), (10, .int .i64 y_78.2)] ∧ Wd w w_ [some b_1] ∧ InR .i64 y_78.2 ∧ RepV (.sl (.int .u8)) w_ (Kx K w.heap.size [some b_1]) v1 x1 ∧ RepV (.sl gt2) w_ (Kx K w.heap.size [some b_1]) v_79 y_78.1 ∧ Bx (.arr 2 (.int .i64)) 44 w_ (Kx K w.heap.size [some b_1]) b_1 x2) ?_ ?_
  ·refine wp_block ?_
   refine wp_loop_n (fun m_ a_ w_ => ∃ (c_64 : Int) (c_66 : Int) (c_68 : Sl ((Sl (Int)) × Bool × Bool × Bool × Int)) , ∃ (v_69 : Value), St 327 a_ [(11, .int .i64 c_64), (10, .int .i64 c_66), (1, v1), (5, pB b_1), (7, v_69)] ∧ Wd w w_ [some b_1] ∧ InR .i64 c_64 ∧ InR .i64 c_66 ∧ RepV (.sl (.int .u8)) w_ (Kx K w.heap.size [some b_1]) v1 x1 ∧ RepV (.sl gt2) w_ (Kx K w.heap.size [some b_1]) v_69 c_68 ∧ Bx (.arr 2 (.int .i64)) 44 w_ (Kx K w.heap.size [some b_1]) b_1 x2 ∧ p5_l2 n m_ c_64 c_66 c_68 = some y_78) n ?_ ?_
   ·skip
    have R_84 : RepV (.sl gt2) w_63 (Kx K w.heap.size [some b_1]) v_37 (⟨y_36, .none⟩ : Sl ((Sl (Int)) × Bool × Bool × Bool × Int)) := O_38.pubAt W 0 rfl
    replace R1 : RepV (.sl (.int .u8)) w_63 (Kx K w.heap.size [some b_1]) v1 x1 := R1.lessAt 0
    replace B_2 : Bx (.arr 2 (.int .i64)) 44 w_63 (Kx K w.heap.size [some b_1]) b_1 x2 := B_2.lessAt 0
    replace W : Wd w w_63 [some b_1] := W.lessAt 0
    exact ⟨0, 0, (⟨y_36, .none⟩ : Sl ((Sl (Int)) × Bool × Bool × Bool × Int)), ⟨v_37, S.sub (by exact ⟨rfl, rfl, rfl, rfl, rfl, trivial⟩), W, (by decide), (by decide), R1, R_84, B_2, ey_78⟩⟩
   ·clear S W; rintro m_82 a w_85 ⟨c_64, c_66, c_68, v_69, S, W, G_65, G_67, R1, R_70, B_2, hl_83⟩
    cases m_82 with
    | zero => exact absurd hl_83 (by simp [p5_l2])
    | succ m_82 =>
     refine ⟨m_82, rfl, ?_⟩
     rw [p5_l2] at hl_83
     refine wp_seq ?_
     refine wp_seq ?_
     refine wp_region_lit ?_
     refine wl_pure (l' := [(70, v_69), (69, .int .i64 c_64), (11, .int .i64 c_64), (10, .int .i64 c_66), (1, v1), (5, pB b_1), (7, v_69)]) S tys tys_ok 2 (by kernel_rfl) ?_
     clear S; intro a S
     refine w_go S rfl (op_len (K := _) S rfl ty25 rfl rfl rfl R_70 ?_)
     clear S; intro a G_86 S
     refine wl_pureK (l' := [(72, .bool (decide (c_64 < (lenI c_68)))), (11, .int .i64 c_64), (10, .int .i64 c_66), (1, v1), (5, pB b_1), (7, v_69)]) S tys tys_ok 1 [72, 11, 10, 1, 5, 7] (by kernel_rfl) ?_
     clear S; intro a S
     refine wpList_nil ?_
     refine then_n ?_
     refine wp_cond_split (S.eval (show ev _ _ = some (.bool (decide (c_64 < (lenI c_68)))) from rfl)) ?_ ?_
     ·intro hc
      rw [if_pos hc] at hl_83
      refine wp_skip ?_
      refine then_n ?_
      replace S := S.sub (l' := [(11, .int .i64 c_64), (10, .int .i64 c_66), (1, v1), (5, pB b_1), (7, v_69)]) (by exact ⟨rfl, rfl, rfl, rfl, rfl, trivial⟩)
      refine wp_seq ?_
      refine wp_block ?_
      refine wp_seq ?_
      refine wp_region_lit ?_
      refine wl_pure (l' := [(76, .int .i64 c_64), (75, v_69), (11, .int .i64 c_64), (10, .int .i64 c_66), (1, v1), (5, pB b_1), (7, v_69)]) S tys tys_ok 2 (by kernel_rfl) ?_
      clear S; intro a S
      obtain ⟨y_87, ey_87, hl_83⟩ := bindS hl_83
      refine w_go S rfl (op_indexAddr S rfl ty25 rfl rfl rfl R_70 rfl ey_87 ?_)
      clear S; intro a p_88 R_89 H_90 S
      refine w_go S rfl (op_load (t := gt2) (x := y_87) S rfl ty37 rfl rfl rfl R_89 ?_)
      clear S; intro a v_91 R_92 S
      refine w_go S rfl (op_alloc (K := K) (n := w.heap.size) (L := [some b_1]) (t := gt2) (y := (⟨[], some 0⟩, false, false, false, 0)) S rfl rfl rfl _ z37 (fun w K => ⟨[.slice .none 0 0], [.bool false, .bool false, .bool false, .int .i64 0], rfl, ⟨.none, 0, 0, rfl, rfl, Nat.le_refl _, by decide, fun k h => Option.some.inj h, .inl rfl⟩, ⟨[.bool false], [.bool false, .bool false, .int .i64 0], rfl, rfl, ⟨[.bool false], [.bool false, .int .i64 0], rfl, rfl, ⟨[.bool false], [.int .i64 0], rfl, rfl, ⟨rfl, by decide⟩⟩⟩⟩⟩) ?_)
      clear S; intro a w_95 b_93 hb_96 B_94 S
      replace R1 := R1.box hb_96
      replace R_70 := R_70.box hb_96
      replace R_92 := R_92.box hb_96
      replace B_2 := B_2.box hb_96
      replace W := W.box hb_96
      refine w_go S rfl (op_store (t' := gt2) S rfl rfl ty37 rfl rfl rfl B_94 (by simp) Ln.whole R_92 ?_)
      intro w_97 hw_98 B_
      replace R1 := R1.wrote hw_98 (by simp)
      replace R_70 := R_70.wrote hw_98 (by simp)
      replace R_92 := R_92.wrote hw_98 (by simp)
      replace B_2 := B_2.wrote hw_98 (by simp) (W.bne (p := 1) (q := 0) (by decide) rfl rfl)
      replace W := W.wrote hw_98 (by simp)
      replace B_94 : Bx gt2 37 w_97 (Kx K w.heap.size [some b_93, some b_1]) b_93 y_87 := B_; clear B_
      refine wpList_nil ?_
      refine then_n ?_
      replace S := S.sub (l' := [(12, pB b_93), (11, .int .i64 c_64), (10, .int .i64 c_66), (1, v1), (5, pB b_1), (7, v_69)]) (by exact ⟨rfl, rfl, rfl, rfl, rfl, rfl, trivial⟩)
      refine wp_seq ?_
      refine wp_region_lit ?_
      refine wl_pure (l' := [(79, .pointer (some ((⟨b_93, 0, .none⟩ : Addr).add (coff gf2 0)))), (12, pB b_93), (11, .int .i64 c_64), (10, .int .i64 c_66), (1, v1), (5, pB b_1), (7, v_69)]) S tys tys_ok 1 (by kernel_rfl) ?_
      clear S; intro a S
      refine w_go S rfl (op_load (t := (.sl (.int .u8))) (x := y_87.1) S rfl ty35 rfl rfl rfl (RepAt.add 0 (RepAt.st (t := gf2) B_94.at_)) ?_)
      clear S; intro a v_99 R_100 S
      refine w_go S rfl (op_len (K := _) S rfl ty35 rfl rfl rfl R_100 ?_)
      clear S; intro a G_101 S
      refine wl_pureK (l' := [(83, .bool (decide ((lenI y_87.1) > 0))), (12, pB b_93), (11, .int .i64 c_64), (10, .int .i64 c_66), (1, v1), (5, pB b_1), (7, v_69)]) S tys tys_ok 2 [83, 12, 11, 10, 1, 5, 7] (by kernel_rfl) ?_
      clear S; intro a S
      obtain ⟨q_102, eq_102, hl_83⟩ := bindS hl_83
      refine seg 5 (fun a_ w_ => St 327 a_ [(88, .bool q_102), (12, pB b_93), (11, .int .i64 c_64), (10, .int .i64 c_66), (1, v1), (5, pB b_1), (7, v_69)] ∧ Wd w w_ [some b_93, some b_1] ∧ RepV (.sl (.int .u8)) w_ (Kx K w.heap.size [some b_93, some b_1]) v1 x1 ∧ RepV (.sl gt2) w_ (Kx K w.heap.size [some b_93, some b_1]) v_69 c_68 ∧ Bx (.arr 2 (.int .i64)) 44 w_ (Kx K w.heap.size [some b_93, some b_1]) b_1 x2 ∧ Bx gt2 37 w_ (Kx K w.heap.size [some b_93, some b_1]) b_93 y_87) ?_ ?_
      ·by_cases hc : (decide ((lenI y_87.1) > 0)) = true
       ·rw [if_pos hc] at eq_102; rw [hc] at S
        refine wl_pure (l' := [(84, .pointer (some ((⟨b_93, 0, .none⟩ : Addr).add (coff gf2 0)))), (83, .bool true), (12, pB b_93), (11, .int .i64 c_64), (10, .int .i64 c_66), (1, v1), (5, pB b_1), (7, v_69)]) S tys tys_ok 1 (by kernel_rfl) ?_
        clear S; intro a S
        refine w_go S rfl (op_load (t := (.sl (.int .u8))) (x := y_87.1) S rfl ty35 rfl rfl rfl (RepAt.add 0 (RepAt.st (t := gf2) B_94.at_)) ?_)
        clear S; intro a v_103 R_104 S
        obtain ⟨t_105, et_105, eq_102⟩ := bindS eq_102
        refine w_go S rfl (op_call (vs := [v_103]) S rfl cb13 rfl rfl rfl (c13 (Kx K w.heap.size [some b_93, some b_1]) n w_97 y_87.1 _ R_104 et_105) ?_)
        rintro _ w_109 ⟨v_106, rfl, R_107, hb_108⟩; refine ⟨_, rfl, ?_⟩
        replace R_107 := RepV.back R_107 W
        clear S; intro a S
        replace R1 := R1.step hb_108
        replace R_70 := R_70.step hb_108
        replace R_104 := R_104.step hb_108
        replace B_2 := B_2.step hb_108
        replace B_94 := B_94.step hb_108
        replace W := W.step hb_108
        obtain ⟨rfl, GR_107⟩ := RepV.int R_107
        refine wl_pure (l' := [(88, .bool (t_105 == 0)), (87, .bool (t_105 == 0)), (86, .int .i64 t_105), (85, v_103), (84, .pointer (some ((⟨b_93, 0, .none⟩ : Addr).add (coff gf2 0)))), (83, .bool true), (12, pB b_93), (11, .int .i64 c_64), (10, .int .i64 c_66), (1, v1), (5, pB b_1), (7, v_69)]) S tys tys_ok 2 (by kernel_rfl) ?_
        clear S; intro a S
        obtain rfl := Option.some.inj eq_102
        exact ⟨S.sub (by exact ⟨rfl, rfl, rfl, rfl, rfl, rfl, rfl, trivial⟩), W, R1, R_70, B_2, B_94⟩
       ·rw [if_neg hc] at eq_102; rw [show (decide ((lenI y_87.1) > 0)) = false from Bool.eq_false_iff.2 hc] at S
        refine wl_pure (l' := [(88, .bool false), (87, undef), (86, undef), (85, undef), (84, undef), (83, .bool false), (12, pB b_93), (11, .int .i64 c_64), (10, .int .i64 c_66), (1, v1), (5, pB b_1), (7, v_69)]) S tys tys_ok 5 (by kernel_rfl) ?_
        clear S; intro a S
        obtain rfl := Option.some.inj eq_102
        exact ⟨S.sub (by exact ⟨rfl, rfl, rfl, rfl, rfl, rfl, rfl, trivial⟩), W, R1, R_70, B_2, B_94⟩
      clear S W eq_102; rintro a w_110 ⟨S, W, R1, R_70, B_2, B_94⟩
      refine wl_pure (l' := [(89, .bool q_102), (88, .bool q_102), (12, pB b_93), (11, .int .i64 c_64), (10, .int .i64 c_66), (1, v1), (5, pB b_1), (7, v_69)]) S tys tys_ok 1 (by kernel_rfl) ?_
      clear S; intro a S
      obtain ⟨q_111, eq_111, hl_83⟩ := bindS hl_83
      refine seg 4 (fun a_ w_ => w_110 = w_ ∧ St 327 a_ [(93, .bool q_111), (12, pB b_93), (11, .int .i64 c_64), (10, .int .i64 c_66), (1, v1), (5, pB b_1), (7, v_69)]) ?_ ?_
      ·by_cases hc : q_102 = true
       ·rw [if_pos hc] at eq_111; rw [hc] at S
        refine wl_pure (l' := [(90, .pointer (some ((⟨b_93, 0, .none⟩ : Addr).add (coff gf2 4)))), (89, .bool true), (88, .bool true), (12, pB b_93), (11, .int .i64 c_64), (10, .int .i64 c_66), (1, v1), (5, pB b_1), (7, v_69)]) S tys tys_ok 1 (by kernel_rfl) ?_
        clear S; intro a S
        refine w_go S rfl (op_load (t := (.int .i64)) (x := y_87.2.2.2.2) S rfl ty3 rfl rfl rfl (RepAt.add 4 (RepAt.st (t := gf2) B_94.at_)) ?_)
        clear S; intro a v_112 R_113 S
        obtain ⟨rfl, GR_113⟩ := RepV.int R_113
        refine wl_pure (l' := [(93, .bool (decide (y_87.2.2.2.2 ≥ 0))), (92, .bool (decide (y_87.2.2.2.2 ≥ 0))), (91, .int .i64 y_87.2.2.2.2), (90, .pointer (some ((⟨b_93, 0, .none⟩ : Addr).add (coff gf2 4)))), (89, .bool true), (88, .bool true), (12, pB b_93), (11, .int .i64 c_64), (10, .int .i64 c_66), (1, v1), (5, pB b_1), (7, v_69)]) S tys tys_ok 2 (by kernel_rfl) ?_
        clear S; intro a S
        obtain rfl := Option.some.inj eq_111
        exact ⟨rfl, S.sub (by exact ⟨rfl, rfl, rfl, rfl, rfl, rfl, rfl, trivial⟩)⟩
       ·rw [if_neg hc] at eq_111; rw [show q_102 = false from Bool.eq_false_iff.2 hc] at S
        refine wl_pure (l' := [(93, .bool false), (92, undef), (91, undef), (90, undef), (89, .bool false), (88, .bool false), (12, pB b_93), (11, .int .i64 c_64), (10, .int .i64 c_66), (1, v1), (5, pB b_1), (7, v_69)]) S tys tys_ok 4 (by kernel_rfl) ?_
        clear S; intro a S
        obtain rfl := Option.some.inj eq_111
        exact ⟨rfl, S.sub (by exact ⟨rfl, rfl, rfl, rfl, rfl, rfl, rfl, trivial⟩)⟩
      clear S eq_111; rintro a _ ⟨rfl, S⟩
      refine wl_pure (l' := [(94, .bool q_111), (93, .bool q_111), (12, pB b_93), (11, .int .i64 c_64), (10, .int .i64 c_66), (1, v1), (5, pB b_1), (7, v_69)]) S tys tys_ok 1 (by kernel_rfl) ?_
      clear S; intro a S
      obtain ⟨q_114, eq_114, hl_83⟩ := bindS hl_83
      refine seg 14 (fun a_ w_ => w_110 = w_ ∧ St 327 a_ [(108, .bool q_114), (12, pB b_93), (11, .int .i64 c_64), (10, .int .i64 c_66), (1, v1), (5, pB b_1), (7, v_69)]) ?_ ?_
      ·by_cases hc : q_111 = true
       ·rw [if_pos hc] at eq_114; rw [hc] at S
        refine wl_pure (l' := [(95, .pointer (some ((⟨b_93, 0, .none⟩ : Addr).add (coff gf2 4)))), (94, .bool true), (93, .bool true), (12, pB b_93), (11, .int .i64 c_64), (10, .int .i64 c_66), (1, v1), (5, pB b_1), (7, v_69)]) S tys tys_ok 1 (by kernel_rfl) ?_
        clear S; intro a S
        refine w_go S rfl (op_load (t := (.int .i64)) (x := y_87.2.2.2.2) S rfl ty3 rfl rfl rfl (RepAt.add 4 (RepAt.st (t := gf2) B_94.at_)) ?_)
        clear S; intro a v_115 R_116 S
        obtain ⟨rfl, GR_116⟩ := RepV.int R_116
        refine wl_pure (l' := [(98, .bool (y_87.2.2.2.2 == 0)), (97, .bool (y_87.2.2.2.2 == 0)), (96, .int .i64 y_87.2.2.2.2), (95, .pointer (some ((⟨b_93, 0, .none⟩ : Addr).add (coff gf2 4)))), (94, .bool true), (93, .bool true), (12, pB b_93), (11, .int .i64 c_64), (10, .int .i64 c_66), (1, v1), (5, pB b_1), (7, v_69)]) S tys tys_ok 2 (by kernel_rfl) ?_
        clear S; intro a S
        obtain ⟨q_117, eq_117, eq_114⟩ := bindS eq_114
        refine seg 9 (fun a_ w_ => w_110 = w_ ∧ St 327 a_ [(107, .bool q_117), (98, .bool (y_87.2.2.2.2 == 0)), (97, .bool (y_87.2.2.2.2 == 0)), (96, .int .i64 y_87.2.2.2.2), (95, .pointer (some ((⟨b_93, 0, .none⟩ : Addr).add (coff gf2 4)))), (94, .bool true), (12, pB b_93), (11, .int .i64 c_64), (10, .int .i64 c_66), (1, v1), (5, pB b_1), (7, v_69)]) ?_ ?_
        ·by_cases hc : (y_87.2.2.2.2 == 0) = false
         ·rw [if_pos hc] at eq_117; rw [hc] at S
          refine wl_pure (l' := [(99, .pointer (some ((⟨b_93, 0, .none⟩ : Addr).add (coff gf2 1)))), (98, .bool false), (97, .bool false), (96, .int .i64 y_87.2.2.2.2), (95, .pointer (some ((⟨b_93, 0, .none⟩ : Addr).add (coff gf2 4)))), (94, .bool true), (93, .bool true), (12, pB b_93), (11, .int .i64 c_64), (10, .int .i64 c_66), (1, v1), (5, pB b_1), (7, v_69)]) S tys tys_ok 1 (by kernel_rfl) ?_
          clear S; intro a S
          refine w_go S rfl (op_load (t := .bool) (x := y_87.2.1) S rfl ty4 rfl rfl rfl (RepAt.add 1 (RepAt.st (t := gf2) B_94.at_)) ?_)
          clear S; intro a v_118 R_119 S
          obtain rfl := RepV.bool R_119
          refine wl_pure (l' := [(102, .bool (!y_87.2.1)), (101, .bool (!y_87.2.1)), (100, .bool y_87.2.1), (99, .pointer (some ((⟨b_93, 0, .none⟩ : Addr).add (coff gf2 1)))), (98, .bool false), (97, .bool false), (96, .int .i64 y_87.2.2.2.2), (95, .pointer (some ((⟨b_93, 0, .none⟩ : Addr).add (coff gf2 4)))), (94, .bool true), (93, .bool true), (12, pB b_93), (11, .int .i64 c_64), (10, .int .i64 c_66), (1, v1), (5, pB b_1), (7, v_69)]) S tys tys_ok 2 (by kernel_rfl) ?_
          clear S; intro a S
          obtain ⟨q_120, eq_120, eq_117⟩ := bindS eq_117
          refine seg 4 (fun a_ w_ => w_110 = w_ ∧ St 327 a_ [(106, .bool q_120), (102, .bool (!y_87.2.1)), (101, .bool (!y_87.2.1)), (100, .bool y_87.2.1), (99, .pointer (some ((⟨b_93, 0, .none⟩ : Addr).add (coff gf2 1)))), (98, .bool false), (97, .bool false), (96, .int .i64 y_87.2.2.2.2), (95, .pointer (some ((⟨b_93, 0, .none⟩ : Addr).add (coff gf2 4)))), (94, .bool true), (12, pB b_93), (11, .int .i64 c_64), (10, .int .i64 c_66), (1, v1), (5, pB b_1), (7, v_69)]) ?_ ?_
          ·by_cases hc : (!y_87.2.1) = true
           ·rw [if_pos hc] at eq_120; rw [hc] at S
            refine wl_pure (l' := [(103, .pointer (some ((⟨b_93, 0, .none⟩ : Addr).add (coff gf2 3)))), (102, .bool true), (101, .bool true), (100, .bool y_87.2.1), (99, .pointer (some ((⟨b_93, 0, .none⟩ : Addr).add (coff gf2 1)))), (98, .bool false), (97, .bool false), (96, .int .i64 y_87.2.2.2.2), (95, .pointer (some ((⟨b_93, 0, .none⟩ : Addr).add (coff gf2 4)))), (94, .bool true), (93, .bool true), (12, pB b_93), (11, .int .i64 c_64), (10, .int .i64 c_66), (1, v1), (5, pB b_1), (7, v_69)]) S tys tys_ok 1 (by kernel_rfl) ?_
            clear S; intro a S
            refine w_go S rfl (op_load (t := .bool) (x := y_87.2.2.2.1) S rfl ty4 rfl rfl rfl (RepAt.add 3 (RepAt.st (t := gf2) B_94.at_)) ?_)
            clear S; intro a v_121 R_122 S
            obtain rfl := RepV.bool R_122
            refine wl_pure (l' := [(106, .bool (!y_87.2.2.2.1)), (105, .bool (!y_87.2.2.2.1)), (104, .bool y_87.2.2.2.1), (103, .pointer (some ((⟨b_93, 0, .none⟩ : Addr).add (coff gf2 3)))), (102, .bool true), (101, .bool true), (100, .bool y_87.2.1), (99, .pointer (some ((⟨b_93, 0, .none⟩ : Addr).add (coff gf2 1)))), (98, .bool false), (97, .bool false), (96, .int .i64 y_87.2.2.2.2), (95, .pointer (some ((⟨b_93, 0, .none⟩ : Addr).add (coff gf2 4)))), (94, .bool true), (93, .bool true), (12, pB b_93), (11, .int .i64 c_64), (10, .int .i64 c_66), (1, v1), (5, pB b_1), (7, v_69)]) S tys tys_ok 2 (by kernel_rfl) ?_
            clear S; intro a S
            obtain rfl := Option.some.inj eq_120
            exact ⟨rfl, S.sub (by exact ⟨rfl, (by rw [show (!y_87.2.1) = true from hc]; rfl), (by rw [show (!y_87.2.1) = true from hc]; rfl), rfl, rfl, rfl, rfl, rfl, rfl, rfl, rfl, rfl, rfl, rfl, rfl, rfl, trivial⟩)⟩
           ·rw [if_neg hc] at eq_120; rw [show (!y_87.2.1) = false from Bool.eq_false_iff.2 hc] at S
            refine wl_pure (l' := [(106, .bool false), (105, undef), (104, undef), (103, undef), (102, .bool false), (101, .bool false), (100, .bool y_87.2.1), (99, .pointer (some ((⟨b_93, 0, .none⟩ : Addr).add (coff gf2 1)))), (98, .bool false), (97, .bool false), (96, .int .i64 y_87.2.2.2.2), (95, .pointer (some ((⟨b_93, 0, .none⟩ : Addr).add (coff gf2 4)))), (94, .bool true), (93, .bool true), (12, pB b_93), (11, .int .i64 c_64), (10, .int .i64 c_66), (1, v1), (5, pB b_1), (7, v_69)]) S tys tys_ok 4 (by kernel_rfl) ?_
            clear S; intro a S
            obtain rfl := Option.some.inj eq_120
            exact ⟨rfl, S.sub (by exact ⟨rfl, (by rw [show (!y_87.2.1) = false from Bool.eq_false_iff.2 hc]; rfl), (by rw [show (!y_87.2.1) = false from Bool.eq_false_iff.2 hc]; rfl), rfl, rfl, rfl, rfl, rfl, rfl, rfl, rfl, rfl, rfl, rfl, rfl, rfl, trivial⟩)⟩
          clear S eq_120; rintro a _ ⟨rfl, S⟩
          refine wl_pure (l' := [(107, .bool q_120), (106, .bool q_120), (102, .bool (!y_87.2.1)), (101, .bool (!y_87.2.1)), (100, .bool y_87.2.1), (99, .pointer (some ((⟨b_93, 0, .none⟩ : Addr).add (coff gf2 1)))), (98, .bool false), (97, .bool false), (96, .int .i64 y_87.2.2.2.2), (95, .pointer (some ((⟨b_93, 0, .none⟩ : Addr).add (coff gf2 4)))), (94, .bool true), (12, pB b_93), (11, .int .i64 c_64), (10, .int .i64 c_66), (1, v1), (5, pB b_1), (7, v_69)]) S tys tys_ok 1 (by kernel_rfl) ?_
          clear S; intro a S
          obtain rfl := Option.some.inj eq_117
          exact ⟨rfl, S.sub (by exact ⟨rfl, (by rw [show (y_87.2.2.2.2 == 0) = false from hc]; rfl), (by rw [show (y_87.2.2.2.2 == 0) = false from hc]; rfl), rfl, rfl, rfl, rfl, rfl, rfl, rfl, rfl, rfl, trivial⟩)⟩
         ·rw [if_neg hc] at eq_117; rw [show (y_87.2.2.2.2 == 0) = true from (by simpa using hc)] at S
          refine wl_pure (l' := [(107, .bool true), (106, undef), (105, undef), (104, undef), (103, undef), (102, undef), (101, undef), (100, undef), (99, undef), (98, .bool true), (97, .bool true), (96, .int .i64 y_87.2.2.2.2), (95, .pointer (some ((⟨b_93, 0, .none⟩ : Addr).add (coff gf2 4)))), (94, .bool true), (93, .bool true), (12, pB b_93), (11, .int .i64 c_64), (10, .int .i64 c_66), (1, v1), (5, pB b_1), (7, v_69)]) S tys tys_ok 9 (by kernel_rfl) ?_
          clear S; intro a S
          obtain rfl := Option.some.inj eq_117
          exact ⟨rfl, S.sub (by exact ⟨rfl, (by rw [show (y_87.2.2.2.2 == 0) = true from (by simpa using hc)]; rfl), (by rw [show (y_87.2.2.2.2 == 0) = true from (by simpa using hc)]; rfl), rfl, rfl, rfl, rfl, rfl, rfl, rfl, rfl, rfl, trivial⟩)⟩
        clear S eq_117; rintro a _ ⟨rfl, S⟩
        refine wl_pure (l' := [(108, .bool q_117), (107, .bool q_117), (98, .bool (y_87.2.2.2.2 == 0)), (97, .bool (y_87.2.2.2.2 == 0)), (96, .int .i64 y_87.2.2.2.2), (95, .pointer (some ((⟨b_93, 0, .none⟩ : Addr).add (coff gf2 4)))), (94, .bool true), (12, pB b_93), (11, .int .i64 c_64), (10, .int .i64 c_66), (1, v1), (5, pB b_1), (7, v_69)]) S tys tys_ok 1 (by kernel_rfl) ?_
        clear S; intro a S
        obtain rfl := Option.some.inj eq_114
        exact ⟨rfl, S.sub (by exact ⟨rfl, rfl, rfl, rfl, rfl, rfl, rfl, trivial⟩)⟩
       ·rw [if_neg hc] at eq_114; rw [show q_111 = false from Bool.eq_false_iff.2 hc] at S
        refine wl_pure (l' := [(108, .bool false), (107, undef), (106, undef), (105, undef), (104, undef), (103, undef), (102, undef), (101, undef), (100, undef), (99, undef), (98, undef), (97, undef), (96, undef), (95, undef), (94, .bool false), (93, .bool false), (12, pB b_93), (11, .int .i64 c_64), (10, .int .i64 c_66), (1, v1), (5, pB b_1), (7, v_69)]) S tys tys_ok 14 (by kernel_rfl) ?_
        clear S; intro a S
        obtain rfl := Option.some.inj eq_114
        exact ⟨rfl, S.sub (by exact ⟨rfl, rfl, rfl, rfl, rfl, rfl, rfl, trivial⟩)⟩
      clear S eq_114; rintro a _ ⟨rfl, S⟩
      refine wl_pure (l' := [(109, .bool q_114), (108, .bool q_114), (12, pB b_93), (11, .int .i64 c_64), (10, .int .i64 c_66), (1, v1), (5, pB b_1), (7, v_69)]) S tys tys_ok 1 (by kernel_rfl) ?_
      clear S; intro a S
      obtain ⟨q_123, eq_123, hl_83⟩ := bindS hl_83
      refine seg 8 (fun a_ w_ => w_110 = w_ ∧ St 327 a_ [(117, .bool q_123), (12, pB b_93), (11, .int .i64 c_64), (10, .int .i64 c_66), (1, v1), (5, pB b_1), (7, v_69)]) ?_ ?_
      ·by_cases hc : q_114 = true
       ·rw [if_pos hc] at eq_123; rw [hc] at S
        refine wl_pure (l' := [(110, .pointer (some ((⟨b_93, 0, .none⟩ : Addr).add (coff gf2 1)))), (109, .bool true), (108, .bool true), (12, pB b_93), (11, .int .i64 c_64), (10, .int .i64 c_66), (1, v1), (5, pB b_1), (7, v_69)]) S tys tys_ok 1 (by kernel_rfl) ?_
        clear S; intro a S
        refine w_go S rfl (op_load (t := .bool) (x := y_87.2.1) S rfl ty4 rfl rfl rfl (RepAt.add 1 (RepAt.st (t := gf2) B_94.at_)) ?_)
        clear S; intro a v_124 R_125 S
        obtain rfl := RepV.bool R_125
        refine wl_pure (l' := [(112, .bool y_87.2.1), (111, .bool y_87.2.1), (110, .pointer (some ((⟨b_93, 0, .none⟩ : Addr).add (coff gf2 1)))), (109, .bool true), (108, .bool true), (12, pB b_93), (11, .int .i64 c_64), (10, .int .i64 c_66), (1, v1), (5, pB b_1), (7, v_69)]) S tys tys_ok 1 (by kernel_rfl) ?_
        clear S; intro a S
        obtain ⟨q_126, eq_126, eq_123⟩ := bindS eq_123
        refine seg 3 (fun a_ w_ => w_110 = w_ ∧ St 327 a_ [(115, .bool q_126), (112, .bool y_87.2.1), (111, .bool y_87.2.1), (110, .pointer (some ((⟨b_93, 0, .none⟩ : Addr).add (coff gf2 1)))), (109, .bool true), (12, pB b_93), (11, .int .i64 c_64), (10, .int .i64 c_66), (1, v1), (5, pB b_1), (7, v_69)]) ?_ ?_
        ·by_cases hc : y_87.2.1 = true
         ·rw [if_pos hc] at eq_126; rw [hc] at S
          refine wl_pure (l' := [(113, .pointer (some ((⟨b_93, 0, .none⟩ : Addr).add (coff gf2 3)))), (112, .bool true), (111, .bool true), (110, .pointer (some ((⟨b_93, 0, .none⟩ : Addr).add (coff gf2 1)))), (109, .bool true), (108, .bool true), (12, pB b_93), (11, .int .i64 c_64), (10, .int .i64 c_66), (1, v1), (5, pB b_1), (7, v_69)]) S tys tys_ok 1 (by kernel_rfl) ?_
          clear S; intro a S
          refine w_go S rfl (op_load (t := .bool) (x := y_87.2.2.2.1) S rfl ty4 rfl rfl rfl (RepAt.add 3 (RepAt.st (t := gf2) B_94.at_)) ?_)
          clear S; intro a v_127 R_128 S
          obtain rfl := RepV.bool R_128
          refine wl_pure (l' := [(115, .bool y_87.2.2.2.1), (114, .bool y_87.2.2.2.1), (113, .pointer (some ((⟨b_93, 0, .none⟩ : Addr).add (coff gf2 3)))), (112, .bool true), (111, .bool true), (110, .pointer (some ((⟨b_93, 0, .none⟩ : Addr).add (coff gf2 1)))), (109, .bool true), (108, .bool true), (12, pB b_93), (11, .int .i64 c_64), (10, .int .i64 c_66), (1, v1), (5, pB b_1), (7, v_69)]) S tys tys_ok 1 (by kernel_rfl) ?_
          clear S; intro a S
          obtain rfl := Option.some.inj eq_126
          exact ⟨rfl, S.sub (by exact ⟨rfl, (by rw [show y_87.2.1 = true from hc]; rfl), (by rw [show y_87.2.1 = true from hc]; rfl), rfl, rfl, rfl, rfl, rfl, rfl, rfl, rfl, trivial⟩)⟩
         ·rw [if_neg hc] at eq_126; rw [show y_87.2.1 = false from Bool.eq_false_iff.2 hc] at S
          refine wl_pure (l' := [(115, .bool false), (114, undef), (113, undef), (112, .bool false), (111, .bool false), (110, .pointer (some ((⟨b_93, 0, .none⟩ : Addr).add (coff gf2 1)))), (109, .bool true), (108, .bool true), (12, pB b_93), (11, .int .i64 c_64), (10, .int .i64 c_66), (1, v1), (5, pB b_1), (7, v_69)]) S tys tys_ok 3 (by kernel_rfl) ?_
          clear S; intro a S
          obtain rfl := Option.some.inj eq_126
          exact ⟨rfl, S.sub (by exact ⟨rfl, (by rw [show y_87.2.1 = false from Bool.eq_false_iff.2 hc]; rfl), (by rw [show y_87.2.1 = false from Bool.eq_false_iff.2 hc]; rfl), rfl, rfl, rfl, rfl, rfl, rfl, rfl, rfl, trivial⟩)⟩
        clear S eq_126; rintro a _ ⟨rfl, S⟩
        refine wl_pure (l' := [(117, .bool (!q_126)), (116, .bool (!q_126)), (115, .bool q_126), (112, .bool y_87.2.1), (111, .bool y_87.2.1), (110, .pointer (some ((⟨b_93, 0, .none⟩ : Addr).add (coff gf2 1)))), (109, .bool true), (12, pB b_93), (11, .int .i64 c_64), (10, .int .i64 c_66), (1, v1), (5, pB b_1), (7, v_69)]) S tys tys_ok 2 (by kernel_rfl) ?_
        clear S; intro a S
        obtain rfl := Option.some.inj eq_123
        exact ⟨rfl, S.sub (by exact ⟨rfl, rfl, rfl, rfl, rfl, rfl, rfl, trivial⟩)⟩
       ·rw [if_neg hc] at eq_123; rw [show q_114 = false from Bool.eq_false_iff.2 hc] at S
        refine wl_pure (l' := [(117, .bool false), (116, undef), (115, undef), (114, undef), (113, undef), (112, undef), (111, undef), (110, undef), (109, .bool false), (108, .bool false), (12, pB b_93), (11, .int .i64 c_64), (10, .int .i64 c_66), (1, v1), (5, pB b_1), (7, v_69)]) S tys tys_ok 8 (by kernel_rfl) ?_
        clear S; intro a S
        obtain rfl := Option.some.inj eq_123
        exact ⟨rfl, S.sub (by exact ⟨rfl, rfl, rfl, rfl, rfl, rfl, rfl, trivial⟩)⟩
      clear S eq_123; rintro a _ ⟨rfl, S⟩
      refine wl_pure (l' := [(13, .bool q_123), (117, .bool q_123), (12, pB b_93), (11, .int .i64 c_64), (10, .int .i64 c_66), (1, v1), (5, pB b_1), (7, v_69)]) S tys tys_ok 1 (by kernel_rfl) ?_
      clear S; intro a S
      refine wpList_nil ?_
      refine then_n ?_
      replace S := S.sub (l' := [(13, .bool q_123), (12, pB b_93), (11, .int .i64 c_64), (10, .int .i64 c_66), (1, v1), (5, pB b_1), (7, v_69)]) (by exact ⟨rfl, rfl, rfl, rfl, rfl, rfl, rfl, trivial⟩)
      refine wp_seq ?_
      obtain ⟨q_129, eq_129, hl_83⟩ := bindS hl_83
      obtain ⟨q_131, HG_130⟩ : ∃ (q_131 : Bool) , (q_123 = true → (if (c_64 == 0) = false then (ckI .i64 (c_64 - 1)).bind fun x_133 => (idx c_68.xs x_133).bind fun y_134 => (p14 n y_134.1 y_87.1).bind fun t_142 => some t_142 else some true) = some q_131 ∧ q_131 = q_129) ∧ (¬ q_123 = true → false = q_129) := by
       by_cases hc : q_123 = true
       ·rw [if_pos hc] at eq_129
        obtain ⟨q_131, eq_131, eq_129⟩ := bindS eq_129
        exact ⟨q_131, ⟨fun _ => ⟨eq_131, Option.some.inj eq_129⟩, fun k_ => absurd hc k_⟩⟩
       ·rw [if_neg hc] at eq_129
        exact ⟨default, ⟨fun k_ => absurd k_ hc, fun _ => Option.some.inj eq_129⟩⟩
      obtain ⟨x_133, y_134, t_142, HG_132⟩ : ∃ (x_133 : Int) (y_134 : (Sl (Int)) × Bool × Bool × Bool × Int) (t_142 : (Bool)) , (q_123 = true → ((c_64 == 0) = false → (ckI .i64 (c_64 - 1)) = some x_133 ∧ (idx c_68.xs x_133) = some y_134 ∧ (p14 n y_134.1 y_87.1) = some t_142 ∧ t_142 = q_131) ∧ (¬ (c_64 == 0) = false → true = q_131)) := by
       by_cases ho0 : q_123 = true
       ·skip
        have eq_131 := (HG_130.1 ho0).1
        by_cases hc : (c_64 == 0) = false
        ·rw [if_pos hc] at eq_131
         obtain ⟨x_133, ex_133, eq_131⟩ := bindS eq_131
         obtain ⟨y_134, ey_134, eq_131⟩ := bindS eq_131
         obtain ⟨t_142, et_142, eq_131⟩ := bindS eq_131
         exact ⟨x_133, y_134, t_142, fun _ => ⟨fun _ => ⟨ex_133, ey_134, et_142, Option.some.inj eq_131⟩, fun k_ => absurd hc k_⟩⟩
        ·rw [if_neg hc] at eq_131
         exact ⟨default, default, default, fun _ => ⟨fun k_ => absurd k_ hc, fun _ => Option.some.inj eq_131⟩⟩
       ·exact ⟨default, default, default, fun k_ => absurd k_ ho0⟩
      have hR : Rel (Kx K w.heap.size [some b_93, some b_1]) Bl := Bl.rel _
      refine wp_region_suf 16 [16, 16, 16, 16, 16, 16, 16, 16, 16, 16, 16, 16, 16, 16, 16, 16] hR [eqv (.bool q_123), eqv (.bool q_123), cndF q_123 true (isI .i64 c_64), cndF q_123 true (eqv (.bool (c_64 == 0))), cndF q_123 true (eqv (.bool (c_64 == 0))), cndF q_123 true (cndF (c_64 == 0) false (isRep (.sl gt2) (Kx K w.heap.size [some b_93, some b_1]) c_68)), cndF q_123 true (cndF (c_64 == 0) false (isI .i64 c_64)), cndF q_123 true (cndF (c_64 == 0) false (isI .i64 x_133)), cndF q_123 true (cndF (c_64 == 0) false (isEl gt2 (Kx K w.heap.size [some b_93, some b_1]) y_134)), cndF q_123 true (cndF (c_64 == 0) false (isEl (.sl (.int .u8)) (Kx K w.heap.size [some b_93, some b_1]) y_134.1)), cndF q_123 true (cndF (c_64 == 0) false (isRep (.sl (.int .u8)) (Kx K w.heap.size [some b_93, some b_1]) y_134.1)), cndF q_123 true (cndF (c_64 == 0) false (eqv (.pointer (some ((⟨b_93, 0, .none⟩ : Addr).add (coff gf2 0)))))), cndF q_123 true (cndF (c_64 == 0) false (isRep (.sl (.int .u8)) (Kx K w.heap.size [some b_93, some b_1]) y_87.1)), cndF q_123 true (cndF (c_64 == 0) false (eqv (.bool t_142))), cndF q_123 true (eqv (.bool q_131)), eqv (.bool q_129)] [[], [(0, 118)], [(1, 119)], [(2, 120), (1, 119)], [(3, 121), (1, 119)], [(4, 122)], [(4, 122)], [(6, 124), (4, 122)], [(5, 123), (7, 125), (4, 122)], [(8, 126), (4, 122)], [(9, 127), (4, 122)], [(4, 122)], [(11, 129), (4, 122)], [(10, 128), (12, 130), (4, 122)], [(4, 122), (13, 131), (1, 119)], [(1, 119), (14, 132)]] (by kernel_rfl) (by rw [S.size]; kernel_rfl) (by kernel_rfl) (by kernel_rfl) (by kernel_rfl) rfl ⟨(stab_eqv _), (stab_eqv _), (stab_cnd stab_I), (stab_cnd (stab_eqv _)), (stab_cnd (stab_eqv _)), (stab_cnd (stab_cnd (stab_rep hR))), (stab_cnd (stab_cnd stab_I)), (stab_cnd (stab_cnd stab_I)), (stab_cnd (stab_cnd (stab_el hR))), (stab_cnd (stab_cnd (stab_el hR))), (stab_cnd (stab_cnd (stab_rep hR))), (stab_cnd (stab_cnd (stab_eqv _))), (stab_cnd (stab_cnd (stab_rep hR))), (stab_cnd (stab_cnd (stab_eqv _))), (stab_cnd (stab_eqv _)), (stab_eqv _), trivial⟩ ?_ ?_
      ·
       refine RunAll.cons (eqv (.bool q_123)) [] rfl rfl ?_ ?_
       ·intro W_ hW
        have S1 := S
        refine fill_nil S1 ?_; clear S1; intro a_ S1
        have S0 := S.defers; replace S := S1; clear S1
        refine wl_pure (l' := [(118, .bool q_123), (13, .bool q_123), (12, pB b_93), (11, .int .i64 c_64), (10, .int .i64 c_66), (1, v1), (5, pB b_1), (7, v_69)]) S tys tys_ok 1 (by kernel_rfl) ?_; clear S; intro a S
        refine wpList_nil ?_
        exact RPost.mk_ S rfl S0 rfl (Below.refl _ _)
       refine RunAll.cons (eqv (.bool q_123)) [(eqv (.bool q_123), 118)] rfl rfl ?_ ?_
       ·intro W_ hW
        have S1 := S
        intro v_148 hF_147; obtain rfl : .bool q_123 = v_148 := Eq.symm hF_147
        replace S1 := S1.put (by decide : 118 < 327) (.bool q_123)
        refine fill_nil S1 ?_; clear S1; intro a_ S1
        have S0 := S.defers; replace S := S1; clear S1
        refine wl_pure (l' := [(119, .bool q_123), (118, .bool q_123), (13, .bool q_123), (12, pB b_93), (11, .int .i64 c_64), (10, .int .i64 c_66), (1, v1), (5, pB b_1), (7, v_69)]) S tys tys_ok 1 (by kernel_rfl) ?_; clear S; intro a S
        refine wpList_nil ?_
        exact RPost.mk_ S rfl S0 rfl (Below.refl _ _)
       refine RunAll.cons (cndF q_123 true (isI .i64 c_64)) [(eqv (.bool q_123), 119)] rfl rfl ?_ ?_
       ·intro W_ hW
        by_cases hc0 : q_123 = true
        ·have hl0 : q_123 = true := hc0
         have S1 := S
         intro v_150 hF_149; obtain rfl : .bool q_123 = v_150 := Eq.symm hF_149
         replace S1 := S1.put (by decide : 119 < 327) (.bool q_123)
         refine fill_nil S1 ?_; clear S1; intro a_ S1
         rw [show q_123 = true from hl0] at S1
         have S0 := S.defers; replace S := S1; clear S1
         refine wl_pure (l' := [(120, .int .i64 c_64), (119, .bool true), (13, .bool true), (12, pB b_93), (11, .int .i64 c_64), (10, .int .i64 c_66), (1, v1), (5, pB b_1), (7, v_69)]) S tys tys_ok 1 (by kernel_rfl) ?_; clear S; intro a S
         refine wpList_nil ?_
         exact RPost.mk_ S rfl S0 ⟨fun _ => ⟨rfl, G_65⟩, fun k_ => absurd hc0 k_⟩ (Below.refl _ _)
        ·have hl0 : q_123 = false := Bool.eq_false_iff.2 hc0
         have S1 := S
         intro v_152 hF_151; obtain rfl : .bool q_123 = v_152 := Eq.symm hF_151
         replace S1 := S1.put (by decide : 119 < 327) (.bool q_123)
         refine fill_nil S1 ?_; clear S1; intro a_ S1
         rw [show q_123 = false from hl0] at S1
         have S0 := S.defers; replace S := S1; clear S1
         refine wl_pure (l' := [(120, undef), (119, .bool false), (13, .bool false), (12, pB b_93), (11, .int .i64 c_64), (10, .int .i64 c_66), (1, v1), (5, pB b_1), (7, v_69)]) S tys tys_ok 1 (by kernel_rfl) ?_; clear S; intro a S
         refine wpList_nil ?_
         exact RPost.mk_ S rfl S0 ⟨fun k_ => absurd k_ hc0, fun _ => rfl⟩ (Below.refl _ _)
       refine RunAll.cons (cndF q_123 true (eqv (.bool (c_64 == 0)))) [(cndF q_123 true (isI .i64 c_64), 120), (eqv (.bool q_123), 119)] rfl rfl ?_ ?_
       ·intro W_ hW
        by_cases hc0 : q_123 = true
        ·have hl0 : q_123 = true := hc0
         have S1 := S
         intro v_153 hF_154
         replace hF_154 := cndF.pos hF_154 hc0
         revert hF_154
         revert v_153
         rintro _ ⟨rfl, hF_155⟩
         replace S1 := S1.put (by decide : 120 < 327) (.int .i64 c_64)
         intro v_158 hF_157; obtain rfl : .bool q_123 = v_158 := Eq.symm hF_157
         replace S1 := S1.put (by decide : 119 < 327) (.bool q_123)
         refine fill_nil S1 ?_; clear S1; intro a_ S1
         rw [show q_123 = true from hl0] at S1
         have S0 := S.defers; replace S := S1; clear S1
         refine wl_pure (l' := [(121, .bool (c_64 == 0)), (119, .bool true), (120, .int .i64 c_64), (13, .bool true), (12, pB b_93), (11, .int .i64 c_64), (10, .int .i64 c_66), (1, v1), (5, pB b_1), (7, v_69)]) S tys tys_ok 1 (by kernel_rfl) ?_; clear S; intro a S
         refine wpList_nil ?_
         exact RPost.mk_ S rfl S0 ⟨fun _ => rfl, fun k_ => absurd hc0 k_⟩ (Below.refl _ _)
        ·have hl0 : q_123 = false := Bool.eq_false_iff.2 hc0
         have S1 := S
         intro v_159 hF_160
         obtain rfl := cndF.neg hF_160 hc0
         replace S1 := S1.put (by decide : 120 < 327) (undef)
         intro v_162 hF_161; obtain rfl : .bool q_123 = v_162 := Eq.symm hF_161
         replace S1 := S1.put (by decide : 119 < 327) (.bool q_123)
         refine fill_nil S1 ?_; clear S1; intro a_ S1
         rw [show q_123 = false from hl0] at S1
         have S0 := S.defers; replace S := S1; clear S1
         refine wl_pure (l' := [(121, undef), (119, .bool false), (120, undef), (13, .bool false), (12, pB b_93), (11, .int .i64 c_64), (10, .int .i64 c_66), (1, v1), (5, pB b_1), (7, v_69)]) S tys tys_ok 1 (by kernel_rfl) ?_; clear S; intro a S
         refine wpList_nil ?_
         exact RPost.mk_ S rfl S0 ⟨fun k_ => absurd k_ hc0, fun _ => rfl⟩ (Below.refl _ _)
       refine RunAll.cons (cndF q_123 true (eqv (.bool (c_64 == 0)))) [(cndF q_123 true (eqv (.bool (c_64 == 0))), 121), (eqv (.bool q_123), 119)] rfl rfl ?_ ?_
       ·intro W_ hW
        by_cases hc0 : q_123 = true
        ·have hl0 : q_123 = true := hc0
         have S1 := S
         intro v_163 hF_164
         replace hF_164 := cndF.pos hF_164 hc0
         revert hF_164
         revert v_163
         intro v_166 hF_165; obtain rfl : .bool (c_64 == 0) = v_166 := Eq.symm hF_165
         replace S1 := S1.put (by decide : 121 < 327) (.bool (c_64 == 0))
         intro v_168 hF_167; obtain rfl : .bool q_123 = v_168 := Eq.symm hF_167
         replace S1 := S1.put (by decide : 119 < 327) (.bool q_123)
         refine fill_nil S1 ?_; clear S1; intro a_ S1
         rw [show q_123 = true from hl0] at S1
         have S0 := S.defers; replace S := S1; clear S1
         refine wl_pure (l' := [(122, .bool (c_64 == 0)), (119, .bool true), (121, .bool (c_64 == 0)), (13, .bool true), (12, pB b_93), (11, .int .i64 c_64), (10, .int .i64 c_66), (1, v1), (5, pB b_1), (7, v_69)]) S tys tys_ok 1 (by kernel_rfl) ?_; clear S; intro a S
         refine wpList_nil ?_
         exact RPost.mk_ S rfl S0 ⟨fun _ => rfl, fun k_ => absurd hc0 k_⟩ (Below.refl _ _)
        ·have hl0 : q_123 = false := Bool.eq_false_iff.2 hc0
         have S1 := S
         intro v_169 hF_170
         obtain rfl := cndF.neg hF_170 hc0
         replace S1 := S1.put (by decide : 121 < 327) (undef)
         intro v_172 hF_171; obtain rfl : .bool q_123 = v_172 := Eq.symm hF_171
         replace S1 := S1.put (by decide : 119 < 327) (.bool q_123)
         refine fill_nil S1 ?_; clear S1; intro a_ S1
         rw [show q_123 = false from hl0] at S1
         have S0 := S.defers; replace S := S1; clear S1
         refine wl_pure (l' := [(122, undef), (119, .bool false), (121, undef), (13, .bool false), (12, pB b_93), (11, .int .i64 c_64), (10, .int .i64 c_66), (1, v1), (5, pB b_1), (7, v_69)]) S tys tys_ok 1 (by kernel_rfl) ?_; clear S; intro a S
         refine wpList_nil ?_
         exact RPost.mk_ S rfl S0 ⟨fun k_ => absurd k_ hc0, fun _ => rfl⟩ (Below.refl _ _)
       refine RunAll.cons (cndF q_123 true (cndF (c_64 == 0) false (isRep (.sl gt2) (Kx K w.heap.size [some b_93, some b_1]) c_68))) [(cndF q_123 true (eqv (.bool (c_64 == 0))), 122)] rfl rfl ?_ ?_
       ·intro W_ hW
        by_cases hc0 : q_123 = true
        ·have hl0 : q_123 = true := hc0
         by_cases hc1 : (c_64 == 0) = false
         ·have hl1 : (c_64 == 0) = false := hc1
          have S1 := S
          intro v_173 hF_174
          replace hF_174 := cndF.pos hF_174 hc0
          revert hF_174
          revert v_173
          intro v_176 hF_175; obtain rfl : .bool (c_64 == 0) = v_176 := Eq.symm hF_175
          replace S1 := S1.put (by decide : 122 < 327) (.bool (c_64 == 0))
          refine fill_nil S1 ?_; clear S1; intro a_ S1
          replace R_70 := R_70.step hW
          rw [show (c_64 == 0) = false from hl1] at S1
          have S0 := S.defers; replace S := S1; clear S1
          refine wl_pure (l' := [(123, v_69), (122, .bool false), (13, .bool q_123), (12, pB b_93), (11, .int .i64 c_64), (10, .int .i64 c_66), (1, v1), (5, pB b_1), (7, v_69)]) S tys tys_ok 1 (by kernel_rfl) ?_; clear S; intro a S
          refine wpList_nil ?_
          exact RPost.mk_ S rfl S0 ⟨fun _ => ⟨fun _ => R_70, fun k_ => absurd hc1 k_⟩, fun k_ => absurd hc0 k_⟩ (Below.refl _ _)
         ·have hl1 : (c_64 == 0) = true := (by simpa using hc1)
          have S1 := S
          intro v_177 hF_178
          replace hF_178 := cndF.pos hF_178 hc0
          revert hF_178
          revert v_177
          intro v_180 hF_179; obtain rfl : .bool (c_64 == 0) = v_180 := Eq.symm hF_179
          replace S1 := S1.put (by decide : 122 < 327) (.bool (c_64 == 0))
          refine fill_nil S1 ?_; clear S1; intro a_ S1
          rw [show (c_64 == 0) = true from hl1] at S1
          have S0 := S.defers; replace S := S1; clear S1
          refine wl_pure (l' := [(123, undef), (122, .bool true), (13, .bool q_123), (12, pB b_93), (11, .int .i64 c_64), (10, .int .i64 c_66), (1, v1), (5, pB b_1), (7, v_69)]) S tys tys_ok 1 (by kernel_rfl) ?_; clear S; intro a S
          refine wpList_nil ?_
          exact RPost.mk_ S rfl S0 ⟨fun _ => ⟨fun k_ => absurd k_ hc1, fun _ => rfl⟩, fun k_ => absurd hc0 k_⟩ (Below.refl _ _)
        ·have hl0 : q_123 = false := Bool.eq_false_iff.2 hc0
         have S1 := S
         intro v_181 hF_182
         obtain rfl := cndF.neg hF_182 hc0
         replace S1 := S1.put (by decide : 122 < 327) (undef)
         refine fill_nil S1 ?_; clear S1; intro a_ S1
         have S0 := S.defers; replace S := S1; clear S1
         refine wl_pure (l' := [(123, undef), (122, undef), (13, .bool q_123), (12, pB b_93), (11, .int .i64 c_64), (10, .int .i64 c_66), (1, v1), (5, pB b_1), (7, v_69)]) S tys tys_ok 1 (by kernel_rfl) ?_; clear S; intro a S
         refine wpList_nil ?_
         exact RPost.mk_ S rfl S0 ⟨fun k_ => absurd k_ hc0, fun _ => rfl⟩ (Below.refl _ _)
       refine RunAll.cons (cndF q_123 true (cndF (c_64 == 0) false (isI .i64 c_64))) [(cndF q_123 true (eqv (.bool (c_64 == 0))), 122)] rfl rfl ?_ ?_
       ·intro W_ hW
        by_cases hc0 : q_123 = true
        ·have hl0 : q_123 = true := hc0
         by_cases hc1 : (c_64 == 0) = false
         ·have hl1 : (c_64 == 0) = false := hc1
          have S1 := S
          intro v_183 hF_184
          replace hF_184 := cndF.pos hF_184 hc0
          revert hF_184
          revert v_183
          intro v_186 hF_185; obtain rfl : .bool (c_64 == 0) = v_186 := Eq.symm hF_185
          replace S1 := S1.put (by decide : 122 < 327) (.bool (c_64 == 0))
          refine fill_nil S1 ?_; clear S1; intro a_ S1
          rw [show (c_64 == 0) = false from hl1] at S1
          have S0 := S.defers; replace S := S1; clear S1
          refine wl_pure (l' := [(124, .int .i64 c_64), (122, .bool false), (13, .bool q_123), (12, pB b_93), (11, .int .i64 c_64), (10, .int .i64 c_66), (1, v1), (5, pB b_1), (7, v_69)]) S tys tys_ok 1 (by kernel_rfl) ?_; clear S; intro a S
          refine wpList_nil ?_
          exact RPost.mk_ S rfl S0 ⟨fun _ => ⟨fun _ => ⟨rfl, G_65⟩, fun k_ => absurd hc1 k_⟩, fun k_ => absurd hc0 k_⟩ (Below.refl _ _)
         ·have hl1 : (c_64 == 0) = true := (by simpa using hc1)
          have S1 := S
          intro v_187 hF_188
          replace hF_188 := cndF.pos hF_188 hc0
          revert hF_188
          revert v_187
          intro v_190 hF_189; obtain rfl : .bool (c_64 == 0) = v_190 := Eq.symm hF_189
          replace S1 := S1.put (by decide : 122 < 327) (.bool (c_64 == 0))
          refine fill_nil S1 ?_; clear S1; intro a_ S1
          rw [show (c_64 == 0) = true from hl1] at S1
          have S0 := S.defers; replace S := S1; clear S1
          refine wl_pure (l' := [(124, undef), (122, .bool true), (13, .bool q_123), (12, pB b_93), (11, .int .i64 c_64), (10, .int .i64 c_66), (1, v1), (5, pB b_1), (7, v_69)]) S tys tys_ok 1 (by kernel_rfl) ?_; clear S; intro a S
          refine wpList_nil ?_
          exact RPost.mk_ S rfl S0 ⟨fun _ => ⟨fun k_ => absurd k_ hc1, fun _ => rfl⟩, fun k_ => absurd hc0 k_⟩ (Below.refl _ _)
        ·have hl0 : q_123 = false := Bool.eq_false_iff.2 hc0
         have S1 := S
         intro v_191 hF_192
         obtain rfl := cndF.neg hF_192 hc0
         replace S1 := S1.put (by decide : 122 < 327) (undef)
         refine fill_nil S1 ?_; clear S1; intro a_ S1
         have S0 := S.defers; replace S := S1; clear S1
         refine wl_pure (l' := [(124, undef), (122, undef), (13, .bool q_123), (12, pB b_93), (11, .int .i64 c_64), (10, .int .i64 c_66), (1, v1), (5, pB b_1), (7, v_69)]) S tys tys_ok 1 (by kernel_rfl) ?_; clear S; intro a S
         refine wpList_nil ?_
         exact RPost.mk_ S rfl S0 ⟨fun k_ => absurd k_ hc0, fun _ => rfl⟩ (Below.refl _ _)
       refine RunAll.cons (cndF q_123 true (cndF (c_64 == 0) false (isI .i64 x_133))) [(cndF q_123 true (cndF (c_64 == 0) false (isI .i64 c_64)), 124), (cndF q_123 true (eqv (.bool (c_64 == 0))), 122)] rfl rfl ?_ ?_
       ·intro W_ hW
        by_cases hc0 : q_123 = true
        ·have hl0 : q_123 = true := hc0
         by_cases hc1 : (c_64 == 0) = false
         ·have hl1 : (c_64 == 0) = false := hc1
          have S1 := S
          intro v_193 hF_194
          replace hF_194 := cndF.pos hF_194 hc0
          replace hF_194 := cndF.pos hF_194 hc1
          revert hF_194
          revert v_193
          rintro _ ⟨rfl, hF_195⟩
          replace S1 := S1.put (by decide : 124 < 327) (.int .i64 c_64)
          intro v_197 hF_198
          replace hF_198 := cndF.pos hF_198 hc0
          revert hF_198
          revert v_197
          intro v_200 hF_199; obtain rfl : .bool (c_64 == 0) = v_200 := Eq.symm hF_199
          replace S1 := S1.put (by decide : 122 < 327) (.bool (c_64 == 0))
          refine fill_nil S1 ?_; clear S1; intro a_ S1
          rw [show (c_64 == 0) = false from hl1] at S1
          have S0 := S.defers; replace S := S1; clear S1
          obtain ⟨eq_131, _⟩ := (HG_130).1 hc0
          obtain ⟨ex_133, ey_134, et_142, _⟩ := (HG_132 hc0).1 hc1
          refine w_go S rfl (op_arith S .i64 (c_64 - 1) rfl (.inr (.inl rfl)) rfl rfl rfl rfl ex_133 ?_)
          clear S; intro a S
          refine wpList_nil ?_
          exact RPost.mk_ S rfl S0 ⟨fun _ => ⟨fun _ => ⟨rfl, (ckI_some ex_133).2.1⟩, fun k_ => absurd hc1 k_⟩, fun k_ => absurd hc0 k_⟩ (Below.refl _ _)
         ·have hl1 : (c_64 == 0) = true := (by simpa using hc1)
          have S1 := S
          intro v_201 hF_202
          replace hF_202 := cndF.pos hF_202 hc0
          obtain rfl := cndF.neg hF_202 hc1
          replace S1 := S1.put (by decide : 124 < 327) (undef)
          intro v_203 hF_204
          replace hF_204 := cndF.pos hF_204 hc0
          revert hF_204
          revert v_203
          intro v_206 hF_205; obtain rfl : .bool (c_64 == 0) = v_206 := Eq.symm hF_205
          replace S1 := S1.put (by decide : 122 < 327) (.bool (c_64 == 0))
          refine fill_nil S1 ?_; clear S1; intro a_ S1
          rw [show (c_64 == 0) = true from hl1] at S1
          have S0 := S.defers; replace S := S1; clear S1
          refine wl_pure (l' := [(125, undef), (122, .bool true), (124, undef), (13, .bool q_123), (12, pB b_93), (11, .int .i64 c_64), (10, .int .i64 c_66), (1, v1), (5, pB b_1), (7, v_69)]) S tys tys_ok 1 (by kernel_rfl) ?_; clear S; intro a S
          refine wpList_nil ?_
          exact RPost.mk_ S rfl S0 ⟨fun _ => ⟨fun k_ => absurd k_ hc1, fun _ => rfl⟩, fun k_ => absurd hc0 k_⟩ (Below.refl _ _)
        ·have hl0 : q_123 = false := Bool.eq_false_iff.2 hc0
         have S1 := S
         intro v_207 hF_208
         obtain rfl := cndF.neg hF_208 hc0
         replace S1 := S1.put (by decide : 124 < 327) (undef)
         intro v_209 hF_210
         obtain rfl := cndF.neg hF_210 hc0
         replace S1 := S1.put (by decide : 122 < 327) (undef)
         refine fill_nil S1 ?_; clear S1; intro a_ S1
         have S0 := S.defers; replace S := S1; clear S1
         refine wl_pure (l' := [(125, undef), (122, undef), (124, undef), (13, .bool q_123), (12, pB b_93), (11, .int .i64 c_64), (10, .int .i64 c_66), (1, v1), (5, pB b_1), (7, v_69)]) S tys tys_ok 1 (by kernel_rfl) ?_; clear S; intro a S
         refine wpList_nil ?_
         exact RPost.mk_ S rfl S0 ⟨fun k_ => absurd k_ hc0, fun _ => rfl⟩ (Below.refl _ _)
       refine RunAll.cons (cndF q_123 true (cndF (c_64 == 0) false (isEl gt2 (Kx K w.heap.size [some b_93, some b_1]) y_134))) [(cndF q_123 true (cndF (c_64 == 0) false (isRep (.sl gt2) (Kx K w.heap.size [some b_93, some b_1]) c_68)), 123), (cndF q_123 true (cndF (c_64 == 0) false (isI .i64 x_133)), 125), (cndF q_123 true (eqv (.bool (c_64 == 0))), 122)] rfl rfl ?_ ?_
       ·intro W_ hW
        by_cases hc0 : q_123 = true
        ·have hl0 : q_123 = true := hc0
         by_cases hc1 : (c_64 == 0) = false
         ·have hl1 : (c_64 == 0) = false := hc1
          have S1 := S
          intro v_211 hF_212
          replace hF_212 := cndF.pos hF_212 hc0
          replace hF_212 := cndF.pos hF_212 hc1
          revert hF_212
          revert v_211
          intro v_214 hF_213; replace hF_213 : RepV _ _ _ _ _ := hF_213
          replace S1 := S1.put (by decide : 123 < 327) (v_214)
          intro v_215 hF_216
          replace hF_216 := cndF.pos hF_216 hc0
          replace hF_216 := cndF.pos hF_216 hc1
          revert hF_216
          revert v_215
          rintro _ ⟨rfl, hF_217⟩
          replace S1 := S1.put (by decide : 125 < 327) (.int .i64 x_133)
          intro v_219 hF_220
          replace hF_220 := cndF.pos hF_220 hc0
          revert hF_220
          revert v_219
          intro v_222 hF_221; obtain rfl : .bool (c_64 == 0) = v_222 := Eq.symm hF_221
          replace S1 := S1.put (by decide : 122 < 327) (.bool (c_64 == 0))
          refine fill_nil S1 ?_; clear S1; intro a_ S1
          replace W := W.step hW
          rw [show (c_64 == 0) = false from hl1] at S1
          have S0 := S.defers; replace S := S1; clear S1
          obtain ⟨eq_131, _⟩ := (HG_130).1 hc0
          obtain ⟨ex_133, ey_134, et_142, _⟩ := (HG_132 hc0).1 hc1
          refine w_go S rfl (op_indexAddr S rfl ty25 rfl rfl rfl hF_213 rfl ey_134 ?_)
          clear S; intro a p_223 R_224 H_225 S
          refine wpList_nil ?_
          exact RPost.mk_ S rfl S0 ⟨fun _ => ⟨fun _ => ⟨_, rfl, R_224, H_225⟩, fun k_ => absurd hc1 k_⟩, fun k_ => absurd hc0 k_⟩ (Below.refl _ _)
         ·have hl1 : (c_64 == 0) = true := (by simpa using hc1)
          have S1 := S
          intro v_226 hF_227
          replace hF_227 := cndF.pos hF_227 hc0
          obtain rfl := cndF.neg hF_227 hc1
          replace S1 := S1.put (by decide : 123 < 327) (undef)
          intro v_228 hF_229
          replace hF_229 := cndF.pos hF_229 hc0
          obtain rfl := cndF.neg hF_229 hc1
          replace S1 := S1.put (by decide : 125 < 327) (undef)
          intro v_230 hF_231
          replace hF_231 := cndF.pos hF_231 hc0
          revert hF_231
          revert v_230
          intro v_233 hF_232; obtain rfl : .bool (c_64 == 0) = v_233 := Eq.symm hF_232
          replace S1 := S1.put (by decide : 122 < 327) (.bool (c_64 == 0))
          refine fill_nil S1 ?_; clear S1; intro a_ S1
          rw [show (c_64 == 0) = true from hl1] at S1
          have S0 := S.defers; replace S := S1; clear S1
          refine wl_pure (l' := [(126, undef), (122, .bool true), (125, undef), (123, undef), (13, .bool q_123), (12, pB b_93), (11, .int .i64 c_64), (10, .int .i64 c_66), (1, v1), (5, pB b_1), (7, v_69)]) S tys tys_ok 1 (by kernel_rfl) ?_; clear S; intro a S
          refine wpList_nil ?_
          exact RPost.mk_ S rfl S0 ⟨fun _ => ⟨fun k_ => absurd k_ hc1, fun _ => rfl⟩, fun k_ => absurd hc0 k_⟩ (Below.refl _ _)
        ·have hl0 : q_123 = false := Bool.eq_false_iff.2 hc0
         have S1 := S
         intro v_234 hF_235
         obtain rfl := cndF.neg hF_235 hc0
         replace S1 := S1.put (by decide : 123 < 327) (undef)
         intro v_236 hF_237
         obtain rfl := cndF.neg hF_237 hc0
         replace S1 := S1.put (by decide : 125 < 327) (undef)
         intro v_238 hF_239
         obtain rfl := cndF.neg hF_239 hc0
         replace S1 := S1.put (by decide : 122 < 327) (undef)
         refine fill_nil S1 ?_; clear S1; intro a_ S1
         have S0 := S.defers; replace S := S1; clear S1
         refine wl_pure (l' := [(126, undef), (122, undef), (125, undef), (123, undef), (13, .bool q_123), (12, pB b_93), (11, .int .i64 c_64), (10, .int .i64 c_66), (1, v1), (5, pB b_1), (7, v_69)]) S tys tys_ok 1 (by kernel_rfl) ?_; clear S; intro a S
         refine wpList_nil ?_
         exact RPost.mk_ S rfl S0 ⟨fun k_ => absurd k_ hc0, fun _ => rfl⟩ (Below.refl _ _)
       refine RunAll.cons (cndF q_123 true (cndF (c_64 == 0) false (isEl (.sl (.int .u8)) (Kx K w.heap.size [some b_93, some b_1]) y_134.1))) [(cndF q_123 true (cndF (c_64 == 0) false (isEl gt2 (Kx K w.heap.size [some b_93, some b_1]) y_134)), 126), (cndF q_123 true (eqv (.bool (c_64 == 0))), 122)] rfl rfl ?_ ?_
       ·intro W_ hW
        by_cases hc0 : q_123 = true
        ·have hl0 : q_123 = true := hc0
         by_cases hc1 : (c_64 == 0) = false
         ·have hl1 : (c_64 == 0) = false := hc1
          have S1 := S
          intro v_240 hF_241
          replace hF_241 := cndF.pos hF_241 hc0
          replace hF_241 := cndF.pos hF_241 hc1
          revert hF_241
          revert v_240
          rintro _ ⟨p_244, rfl, R_245, H_246⟩
          replace S1 := S1.put (by decide : 126 < 327) (.pointer (some p_244))
          intro v_247 hF_248
          replace hF_248 := cndF.pos hF_248 hc0
          revert hF_248
          revert v_247
          intro v_250 hF_249; obtain rfl : .bool (c_64 == 0) = v_250 := Eq.symm hF_249
          replace S1 := S1.put (by decide : 122 < 327) (.bool (c_64 == 0))
          refine fill_nil S1 ?_; clear S1; intro a_ S1
          rw [show (c_64 == 0) = false from hl1] at S1
          have S0 := S.defers; replace S := S1; clear S1
          refine wl_pure (l' := [(127, .pointer (some (p_244.add (coff gf2 0)))), (122, .bool false), (126, .pointer (some p_244)), (13, .bool q_123), (12, pB b_93), (11, .int .i64 c_64), (10, .int .i64 c_66), (1, v1), (5, pB b_1), (7, v_69)]) S tys tys_ok 1 (by kernel_rfl) ?_; clear S; intro a S
          refine wpList_nil ?_
          exact RPost.mk_ S rfl S0 ⟨fun _ => ⟨fun _ => ⟨_, rfl, (RepAt.add 0 (RepAt.st (t := gf2) R_245)), (by simpa [Addr.add] using H_246)⟩, fun k_ => absurd hc1 k_⟩, fun k_ => absurd hc0 k_⟩ (Below.refl _ _)
         ·have hl1 : (c_64 == 0) = true := (by simpa using hc1)
          have S1 := S
          intro v_251 hF_252
          replace hF_252 := cndF.pos hF_252 hc0
          obtain rfl := cndF.neg hF_252 hc1
          replace S1 := S1.put (by decide : 126 < 327) (undef)
          intro v_253 hF_254
          replace hF_254 := cndF.pos hF_254 hc0
          revert hF_254
          revert v_253
          intro v_256 hF_255; obtain rfl : .bool (c_64 == 0) = v_256 := Eq.symm hF_255
          replace S1 := S1.put (by decide : 122 < 327) (.bool (c_64 == 0))
          refine fill_nil S1 ?_; clear S1; intro a_ S1
          rw [show (c_64 == 0) = true from hl1] at S1
          have S0 := S.defers; replace S := S1; clear S1
          refine wl_pure (l' := [(127, undef), (122, .bool true), (126, undef), (13, .bool q_123), (12, pB b_93), (11, .int .i64 c_64), (10, .int .i64 c_66), (1, v1), (5, pB b_1), (7, v_69)]) S tys tys_ok 1 (by kernel_rfl) ?_; clear S; intro a S
          refine wpList_nil ?_
          exact RPost.mk_ S rfl S0 ⟨fun _ => ⟨fun k_ => absurd k_ hc1, fun _ => rfl⟩, fun k_ => absurd hc0 k_⟩ (Below.refl _ _)
        ·have hl0 : q_123 = false := Bool.eq_false_iff.2 hc0
         have S1 := S
         intro v_257 hF_258
         obtain rfl := cndF.neg hF_258 hc0
         replace S1 := S1.put (by decide : 126 < 327) (undef)
         intro v_259 hF_260
         obtain rfl := cndF.neg hF_260 hc0
         replace S1 := S1.put (by decide : 122 < 327) (undef)
         refine fill_nil S1 ?_; clear S1; intro a_ S1
         have S0 := S.defers; replace S := S1; clear S1
         refine wl_pure (l' := [(127, undef), (122, undef), (126, undef), (13, .bool q_123), (12, pB b_93), (11, .int .i64 c_64), (10, .int .i64 c_66), (1, v1), (5, pB b_1), (7, v_69)]) S tys tys_ok 1 (by kernel_rfl) ?_; clear S; intro a S
         refine wpList_nil ?_
         exact RPost.mk_ S rfl S0 ⟨fun k_ => absurd k_ hc0, fun _ => rfl⟩ (Below.refl _ _)
       refine RunAll.cons (cndF q_123 true (cndF (c_64 == 0) false (isRep (.sl (.int .u8)) (Kx K w.heap.size [some b_93, some b_1]) y_134.1))) [(cndF q_123 true (cndF (c_64 == 0) false (isEl (.sl (.int .u8)) (Kx K w.heap.size [some b_93, some b_1]) y_134.1)), 127), (cndF q_123 true (eqv (.bool (c_64 == 0))), 122)] rfl rfl ?_ ?_
       ·intro W_ hW
        by_cases hc0 : q_123 = true
        ·have hl0 : q_123 = true := hc0
         by_cases hc1 : (c_64 == 0) = false
         ·have hl1 : (c_64 == 0) = false := hc1
          have S1 := S
          intro v_261 hF_262
          replace hF_262 := cndF.pos hF_262 hc0
          replace hF_262 := cndF.pos hF_262 hc1
          revert hF_262
          revert v_261
          rintro _ ⟨p_265, rfl, R_266, H_267⟩
          replace S1 := S1.put (by decide : 127 < 327) (.pointer (some p_265))
          intro v_268 hF_269
          replace hF_269 := cndF.pos hF_269 hc0
          revert hF_269
          revert v_268
          intro v_271 hF_270; obtain rfl : .bool (c_64 == 0) = v_271 := Eq.symm hF_270
          replace S1 := S1.put (by decide : 122 < 327) (.bool (c_64 == 0))
          refine fill_nil S1 ?_; clear S1; intro a_ S1
          rw [show (c_64 == 0) = false from hl1] at S1
          have S0 := S.defers; replace S := S1; clear S1
          obtain ⟨eq_131, _⟩ := (HG_130).1 hc0
          obtain ⟨ex_133, ey_134, et_142, _⟩ := (HG_132 hc0).1 hc1
          refine w_go S rfl (op_load (t := (.sl (.int .u8))) (x := y_134.1) S rfl ty35 rfl rfl rfl R_266 ?_)
          clear S; intro a v_272 R_273 S
          refine wpList_nil ?_
          exact RPost.mk_ S rfl S0 ⟨fun _ => ⟨fun _ => R_273, fun k_ => absurd hc1 k_⟩, fun k_ => absurd hc0 k_⟩ (Below.refl _ _)
         ·have hl1 : (c_64 == 0) = true := (by simpa using hc1)
          have S1 := S
          intro v_274 hF_275
          replace hF_275 := cndF.pos hF_275 hc0
          obtain rfl := cndF.neg hF_275 hc1
          replace S1 := S1.put (by decide : 127 < 327) (undef)
          intro v_276 hF_277
          replace hF_277 := cndF.pos hF_277 hc0
          revert hF_277
          revert v_276
          intro v_279 hF_278; obtain rfl : .bool (c_64 == 0) = v_279 := Eq.symm hF_278
          replace S1 := S1.put (by decide : 122 < 327) (.bool (c_64 == 0))
          refine fill_nil S1 ?_; clear S1; intro a_ S1
          rw [show (c_64 == 0) = true from hl1] at S1
          have S0 := S.defers; replace S := S1; clear S1
          refine wl_pure (l' := [(128, undef), (122, .bool true), (127, undef), (13, .bool q_123), (12, pB b_93), (11, .int .i64 c_64), (10, .int .i64 c_66), (1, v1), (5, pB b_1), (7, v_69)]) S tys tys_ok 1 (by kernel_rfl) ?_; clear S; intro a S
          refine wpList_nil ?_
          exact RPost.mk_ S rfl S0 ⟨fun _ => ⟨fun k_ => absurd k_ hc1, fun _ => rfl⟩, fun k_ => absurd hc0 k_⟩ (Below.refl _ _)
        ·have hl0 : q_123 = false := Bool.eq_false_iff.2 hc0
         have S1 := S
         intro v_280 hF_281
         obtain rfl := cndF.neg hF_281 hc0
         replace S1 := S1.put (by decide : 127 < 327) (undef)
         intro v_282 hF_283
         obtain rfl := cndF.neg hF_283 hc0
         replace S1 := S1.put (by decide : 122 < 327) (undef)
         refine fill_nil S1 ?_; clear S1; intro a_ S1
         have S0 := S.defers; replace S := S1; clear S1
         refine wl_pure (l' := [(128, undef), (122, undef), (127, undef), (13, .bool q_123), (12, pB b_93), (11, .int .i64 c_64), (10, .int .i64 c_66), (1, v1), (5, pB b_1), (7, v_69)]) S tys tys_ok 1 (by kernel_rfl) ?_; clear S; intro a S
         refine wpList_nil ?_
         exact RPost.mk_ S rfl S0 ⟨fun k_ => absurd k_ hc0, fun _ => rfl⟩ (Below.refl _ _)
       refine RunAll.cons (cndF q_123 true (cndF (c_64 == 0) false (eqv (.pointer (some ((⟨b_93, 0, .none⟩ : Addr).add (coff gf2 0))))))) [(cndF q_123 true (eqv (.bool (c_64 == 0))), 122)] rfl rfl ?_ ?_
       ·intro W_ hW
        by_cases hc0 : q_123 = true
        ·have hl0 : q_123 = true := hc0
         by_cases hc1 : (c_64 == 0) = false
         ·have hl1 : (c_64 == 0) = false := hc1
          have S1 := S
          intro v_284 hF_285
          replace hF_285 := cndF.pos hF_285 hc0
          revert hF_285
          revert v_284
          intro v_287 hF_286; obtain rfl : .bool (c_64 == 0) = v_287 := Eq.symm hF_286
          replace S1 := S1.put (by decide : 122 < 327) (.bool (c_64 == 0))
          refine fill_nil S1 ?_; clear S1; intro a_ S1
          replace B_94 := B_94.step hW
          rw [show (c_64 == 0) = false from hl1] at S1
          have S0 := S.defers; replace S := S1; clear S1
          refine wl_pure (l' := [(129, .pointer (some ((⟨b_93, 0, .none⟩ : Addr).add (coff gf2 0)))), (122, .bool false), (13, .bool q_123), (12, pB b_93), (11, .int .i64 c_64), (10, .int .i64 c_66), (1, v1), (5, pB b_1), (7, v_69)]) S tys tys_ok 1 (by kernel_rfl) ?_; clear S; intro a S
          refine wpList_nil ?_
          exact RPost.mk_ S rfl S0 ⟨fun _ => ⟨fun _ => rfl, fun k_ => absurd hc1 k_⟩, fun k_ => absurd hc0 k_⟩ (Below.refl _ _)
         ·have hl1 : (c_64 == 0) = true := (by simpa using hc1)
          have S1 := S
          intro v_288 hF_289
          replace hF_289 := cndF.pos hF_289 hc0
          revert hF_289
          revert v_288
          intro v_291 hF_290; obtain rfl : .bool (c_64 == 0) = v_291 := Eq.symm hF_290
          replace S1 := S1.put (by decide : 122 < 327) (.bool (c_64 == 0))
          refine fill_nil S1 ?_; clear S1; intro a_ S1
          rw [show (c_64 == 0) = true from hl1] at S1
          have S0 := S.defers; replace S := S1; clear S1
          refine wl_pure (l' := [(129, undef), (122, .bool true), (13, .bool q_123), (12, pB b_93), (11, .int .i64 c_64), (10, .int .i64 c_66), (1, v1), (5, pB b_1), (7, v_69)]) S tys tys_ok 1 (by kernel_rfl) ?_; clear S; intro a S
          refine wpList_nil ?_
          exact RPost.mk_ S rfl S0 ⟨fun _ => ⟨fun k_ => absurd k_ hc1, fun _ => rfl⟩, fun k_ => absurd hc0 k_⟩ (Below.refl _ _)
        ·have hl0 : q_123 = false := Bool.eq_false_iff.2 hc0
         have S1 := S
         intro v_292 hF_293
         obtain rfl := cndF.neg hF_293 hc0
         replace S1 := S1.put (by decide : 122 < 327) (undef)
         refine fill_nil S1 ?_; clear S1; intro a_ S1
         have S0 := S.defers; replace S := S1; clear S1
         refine wl_pure (l' := [(129, undef), (122, undef), (13, .bool q_123), (12, pB b_93), (11, .int .i64 c_64), (10, .int .i64 c_66), (1, v1), (5, pB b_1), (7, v_69)]) S tys tys_ok 1 (by kernel_rfl) ?_; clear S; intro a S
         refine wpList_nil ?_
         exact RPost.mk_ S rfl S0 ⟨fun k_ => absurd k_ hc0, fun _ => rfl⟩ (Below.refl _ _)
       refine RunAll.cons (cndF q_123 true (cndF (c_64 == 0) false (isRep (.sl (.int .u8)) (Kx K w.heap.size [some b_93, some b_1]) y_87.1))) [(cndF q_123 true (cndF (c_64 == 0) false (eqv (.pointer (some ((⟨b_93, 0, .none⟩ : Addr).add (coff gf2 0)))))), 129), (cndF q_123 true (eqv (.bool (c_64 == 0))), 122)] rfl rfl ?_ ?_
       ·intro W_ hW
        by_cases hc0 : q_123 = true
        ·have hl0 : q_123 = true := hc0
         by_cases hc1 : (c_64 == 0) = false
         ·have hl1 : (c_64 == 0) = false := hc1
          have S1 := S
          intro v_294 hF_295
          replace hF_295 := cndF.pos hF_295 hc0
          replace hF_295 := cndF.pos hF_295 hc1
          revert hF_295
          revert v_294
          intro v_297 hF_296; obtain rfl : .pointer (some ((⟨b_93, 0, .none⟩ : Addr).add (coff gf2 0))) = v_297 := Eq.symm hF_296
          replace S1 := S1.put (by decide : 129 < 327) (.pointer (some ((⟨b_93, 0, .none⟩ : Addr).add (coff gf2 0))))
          intro v_298 hF_299
          replace hF_299 := cndF.pos hF_299 hc0
          revert hF_299
          revert v_298
          intro v_301 hF_300; obtain rfl : .bool (c_64 == 0) = v_301 := Eq.symm hF_300
          replace S1 := S1.put (by decide : 122 < 327) (.bool (c_64 == 0))
          refine fill_nil S1 ?_; clear S1; intro a_ S1
          replace B_94 := B_94.step hW
          rw [show (c_64 == 0) = false from hl1] at S1
          have S0 := S.defers; replace S := S1; clear S1
          obtain ⟨eq_131, _⟩ := (HG_130).1 hc0
          obtain ⟨ex_133, ey_134, et_142, _⟩ := (HG_132 hc0).1 hc1
          refine w_go S rfl (op_load (t := (.sl (.int .u8))) (x := y_87.1) S rfl ty35 rfl rfl rfl (RepAt.add 0 (RepAt.st (t := gf2) B_94.at_)) ?_)
          clear S; intro a v_302 R_303 S
          refine wpList_nil ?_
          exact RPost.mk_ S rfl S0 ⟨fun _ => ⟨fun _ => R_303, fun k_ => absurd hc1 k_⟩, fun k_ => absurd hc0 k_⟩ (Below.refl _ _)
         ·have hl1 : (c_64 == 0) = true := (by simpa using hc1)
          have S1 := S
          intro v_304 hF_305
          replace hF_305 := cndF.pos hF_305 hc0
          obtain rfl := cndF.neg hF_305 hc1
          replace S1 := S1.put (by decide : 129 < 327) (undef)
          intro v_306 hF_307
          replace hF_307 := cndF.pos hF_307 hc0
          revert hF_307
          revert v_306
          intro v_309 hF_308; obtain rfl : .bool (c_64 == 0) = v_309 := Eq.symm hF_308
          replace S1 := S1.put (by decide : 122 < 327) (.bool (c_64 == 0))
          refine fill_nil S1 ?_; clear S1; intro a_ S1
          rw [show (c_64 == 0) = true from hl1] at S1
          have S0 := S.defers; replace S := S1; clear S1
          refine wl_pure (l' := [(130, undef), (122, .bool true), (129, undef), (13, .bool q_123), (12, pB b_93), (11, .int .i64 c_64), (10, .int .i64 c_66), (1, v1), (5, pB b_1), (7, v_69)]) S tys tys_ok 1 (by kernel_rfl) ?_; clear S; intro a S
          refine wpList_nil ?_
          exact RPost.mk_ S rfl S0 ⟨fun _ => ⟨fun k_ => absurd k_ hc1, fun _ => rfl⟩, fun k_ => absurd hc0 k_⟩ (Below.refl _ _)
        ·have hl0 : q_123 = false := Bool.eq_false_iff.2 hc0
         have S1 := S
         intro v_310 hF_311
         obtain rfl := cndF.neg hF_311 hc0
         replace S1 := S1.put (by decide : 129 < 327) (undef)
         intro v_312 hF_313
         obtain rfl := cndF.neg hF_313 hc0
         replace S1 := S1.put (by decide : 122 < 327) (undef)
         refine fill_nil S1 ?_; clear S1; intro a_ S1
         have S0 := S.defers; replace S := S1; clear S1
         refine wl_pure (l' := [(130, undef), (122, undef), (129, undef), (13, .bool q_123), (12, pB b_93), (11, .int .i64 c_64), (10, .int .i64 c_66), (1, v1), (5, pB b_1), (7, v_69)]) S tys tys_ok 1 (by kernel_rfl) ?_; clear S; intro a S
         refine wpList_nil ?_
         exact RPost.mk_ S rfl S0 ⟨fun k_ => absurd k_ hc0, fun _ => rfl⟩ (Below.refl _ _)
       refine RunAll.cons (cndF q_123 true (cndF (c_64 == 0) false (eqv (.bool t_142)))) [(cndF q_123 true (cndF (c_64 == 0) false (isRep (.sl (.int .u8)) (Kx K w.heap.size [some b_93, some b_1]) y_134.1)), 128), (cndF q_123 true (cndF (c_64 == 0) false (isRep (.sl (.int .u8)) (Kx K w.heap.size [some b_93, some b_1]) y_87.1)), 130), (cndF q_123 true (eqv (.bool (c_64 == 0))), 122)] rfl rfl ?_ ?_
       ·intro W_ hW
        by_cases hc0 : q_123 = true
        ·have hl0 : q_123 = true := hc0
         by_cases hc1 : (c_64 == 0) = false
         ·have hl1 : (c_64 == 0) = false := hc1
          have S1 := S
          intro v_314 hF_315
          replace hF_315 := cndF.pos hF_315 hc0
          replace hF_315 := cndF.pos hF_315 hc1
          revert hF_315
          revert v_314
          intro v_317 hF_316; replace hF_316 : RepV _ _ _ _ _ := hF_316
          replace S1 := S1.put (by decide : 128 < 327) (v_317)
          intro v_318 hF_319
          replace hF_319 := cndF.pos hF_319 hc0
          replace hF_319 := cndF.pos hF_319 hc1
          revert hF_319
          revert v_318
          intro v_321 hF_320; replace hF_320 : RepV _ _ _ _ _ := hF_320
          replace S1 := S1.put (by decide : 130 < 327) (v_321)
          intro v_322 hF_323
          replace hF_323 := cndF.pos hF_323 hc0
          revert hF_323
          revert v_322
          intro v_325 hF_324; obtain rfl : .bool (c_64 == 0) = v_325 := Eq.symm hF_324
          replace S1 := S1.put (by decide : 122 < 327) (.bool (c_64 == 0))
          refine fill_nil S1 ?_; clear S1; intro a_ S1
          replace W := W.step hW
          rw [show (c_64 == 0) = false from hl1] at S1
          have S0 := S.defers; replace S := S1; clear S1
          obtain ⟨eq_131, _⟩ := (HG_130).1 hc0
          obtain ⟨ex_133, ey_134, et_142, _⟩ := (HG_132 hc0).1 hc1
          refine w_go S rfl (op_call (vs := [v_317, v_321]) S rfl cb14 rfl rfl rfl (c14 (Kx K w.heap.size [some b_93, some b_1]) n W_ y_134.1 _ hF_316 y_87.1 _ hF_320 et_142) ?_)
          rintro _ w_329 ⟨v_326, rfl, R_327, hb_328⟩; refine ⟨_, rfl, ?_⟩
          replace R_327 := RepV.back R_327 W
          clear S; intro a S
          obtain rfl := RepV.bool R_327
          refine wpList_nil ?_
          exact RPost.mk_ S rfl S0 ⟨fun _ => ⟨fun _ => rfl, fun k_ => absurd hc1 k_⟩, fun k_ => absurd hc0 k_⟩ (hb_328)
         ·have hl1 : (c_64 == 0) = true := (by simpa using hc1)
          have S1 := S
          intro v_330 hF_331
          replace hF_331 := cndF.pos hF_331 hc0
          obtain rfl := cndF.neg hF_331 hc1
          replace S1 := S1.put (by decide : 128 < 327) (undef)
          intro v_332 hF_333
          replace hF_333 := cndF.pos hF_333 hc0
          obtain rfl := cndF.neg hF_333 hc1
          replace S1 := S1.put (by decide : 130 < 327) (undef)
          intro v_334 hF_335
          replace hF_335 := cndF.pos hF_335 hc0
          revert hF_335
          revert v_334
          intro v_337 hF_336; obtain rfl : .bool (c_64 == 0) = v_337 := Eq.symm hF_336
          replace S1 := S1.put (by decide : 122 < 327) (.bool (c_64 == 0))
          refine fill_nil S1 ?_; clear S1; intro a_ S1
          rw [show (c_64 == 0) = true from hl1] at S1
          have S0 := S.defers; replace S := S1; clear S1
          refine wl_pure (l' := [(131, undef), (122, .bool true), (130, undef), (128, undef), (13, .bool q_123), (12, pB b_93), (11, .int .i64 c_64), (10, .int .i64 c_66), (1, v1), (5, pB b_1), (7, v_69)]) S tys tys_ok 1 (by kernel_rfl) ?_; clear S; intro a S
          refine wpList_nil ?_
          exact RPost.mk_ S rfl S0 ⟨fun _ => ⟨fun k_ => absurd k_ hc1, fun _ => rfl⟩, fun k_ => absurd hc0 k_⟩ (Below.refl _ _)
        ·have hl0 : q_123 = false := Bool.eq_false_iff.2 hc0
         have S1 := S
         intro v_338 hF_339
         obtain rfl := cndF.neg hF_339 hc0
         replace S1 := S1.put (by decide : 128 < 327) (undef)
         intro v_340 hF_341
         obtain rfl := cndF.neg hF_341 hc0
         replace S1 := S1.put (by decide : 130 < 327) (undef)
         intro v_342 hF_343
         obtain rfl := cndF.neg hF_343 hc0
         replace S1 := S1.put (by decide : 122 < 327) (undef)
         refine fill_nil S1 ?_; clear S1; intro a_ S1
         have S0 := S.defers; replace S := S1; clear S1
         refine wl_pure (l' := [(131, undef), (122, undef), (130, undef), (128, undef), (13, .bool q_123), (12, pB b_93), (11, .int .i64 c_64), (10, .int .i64 c_66), (1, v1), (5, pB b_1), (7, v_69)]) S tys tys_ok 1 (by kernel_rfl) ?_; clear S; intro a S
         refine wpList_nil ?_
         exact RPost.mk_ S rfl S0 ⟨fun k_ => absurd k_ hc0, fun _ => rfl⟩ (Below.refl _ _)
       refine RunAll.cons (cndF q_123 true (eqv (.bool q_131))) [(cndF q_123 true (eqv (.bool (c_64 == 0))), 122), (cndF q_123 true (cndF (c_64 == 0) false (eqv (.bool t_142))), 131), (eqv (.bool q_123), 119)] rfl rfl ?_ ?_
       ·intro W_ hW
        by_cases hc0 : q_123 = true
        ·have hl0 : q_123 = true := hc0
         by_cases hc1 : (c_64 == 0) = false
         ·have hl1 : (c_64 == 0) = false := hc1
          have S1 := S
          intro v_344 hF_345
          replace hF_345 := cndF.pos hF_345 hc0
          revert hF_345
          revert v_344
          intro v_347 hF_346; obtain rfl : .bool (c_64 == 0) = v_347 := Eq.symm hF_346
          replace S1 := S1.put (by decide : 122 < 327) (.bool (c_64 == 0))
          intro v_348 hF_349
          replace hF_349 := cndF.pos hF_349 hc0
          replace hF_349 := cndF.pos hF_349 hc1
          revert hF_349
          revert v_348
          intro v_351 hF_350; obtain rfl : .bool t_142 = v_351 := Eq.symm hF_350
          replace S1 := S1.put (by decide : 131 < 327) (.bool t_142)
          intro v_353 hF_352; obtain rfl : .bool q_123 = v_353 := Eq.symm hF_352
          replace S1 := S1.put (by decide : 119 < 327) (.bool q_123)
          refine fill_nil S1 ?_; clear S1; intro a_ S1
          rw [show q_123 = true from hl0] at S1
          rw [show (c_64 == 0) = false from hl1] at S1
          have S0 := S.defers; replace S := S1; clear S1
          refine wl_pure (l' := [(132, .bool t_142), (119, .bool true), (131, .bool t_142), (122, .bool false), (13, .bool true), (12, pB b_93), (11, .int .i64 c_64), (10, .int .i64 c_66), (1, v1), (5, pB b_1), (7, v_69)]) S tys tys_ok 1 (by kernel_rfl) ?_; clear S; intro a S
          refine wpList_nil ?_
          exact RPost.mk_ S rfl S0 ⟨fun _ => (congrArg Value.bool ((HG_132 hc0).1 hc1).2.2.2), fun k_ => absurd hc0 k_⟩ (Below.refl _ _)
         ·have hl1 : (c_64 == 0) = true := (by simpa using hc1)
          have S1 := S
          intro v_354 hF_355
          replace hF_355 := cndF.pos hF_355 hc0
          revert hF_355
          revert v_354
          intro v_357 hF_356; obtain rfl : .bool (c_64 == 0) = v_357 := Eq.symm hF_356
          replace S1 := S1.put (by decide : 122 < 327) (.bool (c_64 == 0))
          intro v_358 hF_359
          replace hF_359 := cndF.pos hF_359 hc0
          obtain rfl := cndF.neg hF_359 hc1
          replace S1 := S1.put (by decide : 131 < 327) (undef)
          intro v_361 hF_360; obtain rfl : .bool q_123 = v_361 := Eq.symm hF_360
          replace S1 := S1.put (by decide : 119 < 327) (.bool q_123)
          refine fill_nil S1 ?_; clear S1; intro a_ S1
          rw [show q_123 = true from hl0] at S1
          rw [show (c_64 == 0) = true from hl1] at S1
          have S0 := S.defers; replace S := S1; clear S1
          refine wl_pure (l' := [(132, .bool true), (119, .bool true), (131, undef), (122, .bool true), (13, .bool true), (12, pB b_93), (11, .int .i64 c_64), (10, .int .i64 c_66), (1, v1), (5, pB b_1), (7, v_69)]) S tys tys_ok 1 (by kernel_rfl) ?_; clear S; intro a S
          refine wpList_nil ?_
          exact RPost.mk_ S rfl S0 ⟨fun _ => (congrArg Value.bool ((HG_132 hc0).2 hc1)), fun k_ => absurd hc0 k_⟩ (Below.refl _ _)
        ·have hl0 : q_123 = false := Bool.eq_false_iff.2 hc0
         have S1 := S
         intro v_362 hF_363
         obtain rfl := cndF.neg hF_363 hc0
         replace S1 := S1.put (by decide : 122 < 327) (undef)
         intro v_364 hF_365
         obtain rfl := cndF.neg hF_365 hc0
         replace S1 := S1.put (by decide : 131 < 327) (undef)
         intro v_367 hF_366; obtain rfl : .bool q_123 = v_367 := Eq.symm hF_366
         replace S1 := S1.put (by decide : 119 < 327) (.bool q_123)
         refine fill_nil S1 ?_; clear S1; intro a_ S1
         rw [show q_123 = false from hl0] at S1
         have S0 := S.defers; replace S := S1; clear S1
         refine wl_pure (l' := [(132, undef), (119, .bool false), (131, undef), (122, undef), (13, .bool false), (12, pB b_93), (11, .int .i64 c_64), (10, .int .i64 c_66), (1, v1), (5, pB b_1), (7, v_69)]) S tys tys_ok 1 (by kernel_rfl) ?_; clear S; intro a S
         refine wpList_nil ?_
         exact RPost.mk_ S rfl S0 ⟨fun k_ => absurd k_ hc0, fun _ => rfl⟩ (Below.refl _ _)
       refine RunAll.cons (eqv (.bool q_129)) [(eqv (.bool q_123), 119), (cndF q_123 true (eqv (.bool q_131)), 132)] rfl rfl ?_ ?_
       ·intro W_ hW
        by_cases hc0 : q_123 = true
        ·have hl0 : q_123 = true := hc0
         have S1 := S
         intro v_369 hF_368; obtain rfl : .bool q_123 = v_369 := Eq.symm hF_368
         replace S1 := S1.put (by decide : 119 < 327) (.bool q_123)
         intro v_370 hF_371
         replace hF_371 := cndF.pos hF_371 hc0
         revert hF_371
         revert v_370
         intro v_373 hF_372; obtain rfl : .bool q_131 = v_373 := Eq.symm hF_372
         replace S1 := S1.put (by decide : 132 < 327) (.bool q_131)
         refine fill_nil S1 ?_; clear S1; intro a_ S1
         rw [show q_123 = true from hl0] at S1
         have S0 := S.defers; replace S := S1; clear S1
         refine wl_pure (l' := [(133, .bool q_131), (132, .bool q_131), (119, .bool true), (13, .bool true), (12, pB b_93), (11, .int .i64 c_64), (10, .int .i64 c_66), (1, v1), (5, pB b_1), (7, v_69)]) S tys tys_ok 1 (by kernel_rfl) ?_; clear S; intro a S
         refine wpList_nil ?_
         exact RPost.mk_ S rfl S0 (congrArg Value.bool ((HG_130).1 hc0).2) (Below.refl _ _)
        ·have hl0 : q_123 = false := Bool.eq_false_iff.2 hc0
         have S1 := S
         intro v_375 hF_374; obtain rfl : .bool q_123 = v_375 := Eq.symm hF_374
         replace S1 := S1.put (by decide : 119 < 327) (.bool q_123)
         intro v_376 hF_377
         obtain rfl := cndF.neg hF_377 hc0
         replace S1 := S1.put (by decide : 132 < 327) (undef)
         refine fill_nil S1 ?_; clear S1; intro a_ S1
         rw [show q_123 = false from hl0] at S1
         have S0 := S.defers; replace S := S1; clear S1
         refine wl_pure (l' := [(133, .bool false), (132, undef), (119, .bool false), (13, .bool false), (12, pB b_93), (11, .int .i64 c_64), (10, .int .i64 c_66), (1, v1), (5, pB b_1), (7, v_69)]) S tys tys_ok 1 (by kernel_rfl) ?_; clear S; intro a S
         refine wpList_nil ?_
         exact RPost.mk_ S rfl S0 (congrArg Value.bool ((HG_130).2 hc0)) (Below.refl _ _)
       exact trivial
      intro w_378 hb_379
      refine EndE.some_ rfl ?_
      intro v_381 hF_380; obtain rfl : .bool q_123 = v_381 := Eq.symm hF_380
      replace S := S.put (by decide : 118 < 327) (.bool q_123)
      refine EndE.some_ rfl ?_
      intro v_383 hF_382; obtain rfl : .bool q_123 = v_383 := Eq.symm hF_382
      replace S := S.put (by decide : 119 < 327) (.bool q_123)
      refine EndE.some_ rfl ?_
      intro v_384 _
      replace S := S.put (by decide : 120 < 327) (v_384)
      refine EndE.some_ rfl ?_
      intro v_385 _
      replace S := S.put (by decide : 121 < 327) (v_385)
      refine EndE.some_ rfl ?_
      intro v_386 _
      replace S := S.put (by decide : 122 < 327) (v_386)
      refine EndE.some_ rfl ?_
      intro v_387 _
      replace S := S.put (by decide : 123 < 327) (v_387)
      refine EndE.some_ rfl ?_
      intro v_388 _
      replace S := S.put (by decide : 124 < 327) (v_388)
      refine EndE.some_ rfl ?_
      intro v_389 _
      replace S := S.put (by decide : 125 < 327) (v_389)
      refine EndE.some_ rfl ?_
      intro v_390 _
      replace S := S.put (by decide : 126 < 327) (v_390)
      refine EndE.some_ rfl ?_
      intro v_391 _
      replace S := S.put (by decide : 127 < 327) (v_391)
      refine EndE.some_ rfl ?_
      intro v_392 _
      replace S := S.put (by decide : 128 < 327) (v_392)
      refine EndE.some_ rfl ?_
      intro v_393 _
      replace S := S.put (by decide : 129 < 327) (v_393)
      refine EndE.some_ rfl ?_
      intro v_394 _
      replace S := S.put (by decide : 130 < 327) (v_394)
      refine EndE.some_ rfl ?_
      intro v_395 _
      replace S := S.put (by decide : 131 < 327) (v_395)
      refine EndE.some_ rfl ?_
      intro v_396 _
      replace S := S.put (by decide : 132 < 327) (v_396)
      refine EndE.some_ rfl ?_
      intro v_398 hF_397; obtain rfl : .bool q_129 = v_398 := Eq.symm hF_397
      replace S := S.put (by decide : 133 < 327) (.bool q_129)
      refine endE_nil S ?_; clear S; intro a S
      replace R1 := R1.step hb_379
      replace R_70 := R_70.step hb_379
      replace B_2 := B_2.step hb_379
      replace B_94 := B_94.step hb_379
      replace W := W.step hb_379
      refine wl_pureK (l' := [(13, .bool q_129), (13, .bool q_123), (12, pB b_93), (11, .int .i64 c_64), (10, .int .i64 c_66), (1, v1), (5, pB b_1), (7, v_69)]) S tys tys_ok 1 [13, 12, 11, 10, 1, 5, 7] (by kernel_rfl) ?_
      clear S; intro a S
      refine wpList_nil ?_
      refine then_n ?_
      refine wp_seq ?_
      refine wp_seq ?_
      refine wp_region_lit ?_
      refine wl_pure (l' := [(135, .bool q_129), (134, .bool q_129), (13, .bool q_129), (13, .bool q_123), (12, pB b_93), (11, .int .i64 c_64), (10, .int .i64 c_66), (1, v1), (5, pB b_1), (7, v_69)]) S tys tys_ok 2 (by kernel_rfl) ?_
      clear S; intro a S
      obtain ⟨q_399, eq_399, hl_83⟩ := bindS hl_83
      refine seg 5 (fun a_ w_ => w_378 = w_ ∧ St 327 a_ [(140, .bool q_399), (13, .bool q_129), (12, pB b_93), (11, .int .i64 c_64), (10, .int .i64 c_66), (1, v1), (5, pB b_1), (7, v_69)]) ?_ ?_
      ·by_cases hc : q_129 = true
       ·rw [if_pos hc] at eq_399; rw [hc] at S
        refine wl_pure (l' := [(136, .pointer (some ((⟨b_93, 0, .none⟩ : Addr).add (coff gf2 0)))), (135, .bool true), (134, .bool true), (13, .bool true), (13, .bool q_123), (12, pB b_93), (11, .int .i64 c_64), (10, .int .i64 c_66), (1, v1), (5, pB b_1), (7, v_69)]) S tys tys_ok 1 (by kernel_rfl) ?_
        clear S; intro a S
        refine w_go S rfl (op_load (t := (.sl (.int .u8))) (x := y_87.1) S rfl ty35 rfl rfl rfl (RepAt.add 0 (RepAt.st (t := gf2) B_94.at_)) ?_)
        clear S; intro a v_400 R_401 S
        refine w_go S rfl (op_len (K := _) S rfl ty35 rfl rfl rfl R_401 ?_)
        clear S; intro a G_402 S
        refine wl_pure (l' := [(140, .bool (decide ((lenI y_87.1) > 1))), (139, .bool (decide ((lenI y_87.1) > 1))), (138, .int .i64 (lenI y_87.1)), (137, v_400), (136, .pointer (some ((⟨b_93, 0, .none⟩ : Addr).add (coff gf2 0)))), (135, .bool true), (134, .bool true), (13, .bool true), (13, .bool q_123), (12, pB b_93), (11, .int .i64 c_64), (10, .int .i64 c_66), (1, v1), (5, pB b_1), (7, v_69)]) S tys tys_ok 2 (by kernel_rfl) ?_
        clear S; intro a S
        obtain rfl := Option.some.inj eq_399
        exact ⟨rfl, S.sub (by exact ⟨rfl, (by rw [show q_129 = true from hc]; rfl), rfl, rfl, rfl, rfl, rfl, rfl, trivial⟩)⟩
       ·rw [if_neg hc] at eq_399; rw [show q_129 = false from Bool.eq_false_iff.2 hc] at S
        refine wl_pure (l' := [(140, .bool false), (139, undef), (138, undef), (137, undef), (136, undef), (135, .bool false), (134, .bool false), (13, .bool false), (13, .bool q_123), (12, pB b_93), (11, .int .i64 c_64), (10, .int .i64 c_66), (1, v1), (5, pB b_1), (7, v_69)]) S tys tys_ok 5 (by kernel_rfl) ?_
        clear S; intro a S
        obtain rfl := Option.some.inj eq_399
        exact ⟨rfl, S.sub (by exact ⟨rfl, (by rw [show q_129 = false from Bool.eq_false_iff.2 hc]; rfl), rfl, rfl, rfl, rfl, rfl, rfl, trivial⟩)⟩
      clear S eq_399; rintro a _ ⟨rfl, S⟩
      refine wpList_nil ?_
      refine then_n ?_
      obtain ⟨j_403, ej_403, hl_83⟩ := bindS hl_83
      refine wp_cut_ (fun a_ w_ => St 327 a_ [(13, .bool j_403), (11, .int .i64 c_64), (10, .int .i64 c_66), (1, v1), (5, pB b_1), (7, v_69)] ∧ Wd w w_ [some b_93, some b_1] ∧ RepV (.sl (.int .u8)) w_ (Kx K w.heap.size [some b_93, some b_1]) v1 x1 ∧ RepV (.sl gt2) w_ (Kx K w.heap.size [some b_93, some b_1]) v_69 c_68 ∧ Bx (.arr 2 (.int .i64)) 44 w_ (Kx K w.heap.size [some b_93, some b_1]) b_1 x2 ∧ Bx gt2 37 w_ (Kx K w.heap.size [some b_93, some b_1]) b_93 y_87) ?_ ?_
      ·refine wp_cond_split (S.eval (show ev _ _ = some (.bool q_399) from rfl)) ?_ ?_
       ·intro hc
        rw [if_pos hc] at ej_403
        refine wp_seq ?_
        obtain ⟨s_406, es_406, ej_403⟩ := bindS ej_403
        obtain ⟨x_412, ex_412, ej_403⟩ := bindS ej_403
        obtain ⟨s_415, es_415, ej_403⟩ := bindS ej_403
        obtain ⟨t_416, et_416, ej_403⟩ := bindS ej_403
        have hR : Rel (Kx K w.heap.size [some b_93, some b_1]) Bl := Bl.rel _
        refine wp_region_all hR [isRep (.sl gt2) (Kx K w.heap.size [some b_93, some b_1]) c_68, isI .i64 c_64, isRep (.sl gt2) (Kx K w.heap.size [some b_93, some b_1]) s_406, eqv (.pointer (some ((⟨b_93, 0, .none⟩ : Addr).add (coff gf2 0)))), isRep (.sl (.int .u8)) (Kx K w.heap.size [some b_93, some b_1]) y_87.1, eqv (.pointer (some ((⟨b_93, 0, .none⟩ : Addr).add (coff gf2 0)))), isRep (.sl (.int .u8)) (Kx K w.heap.size [some b_93, some b_1]) y_87.1, isI .i64 (lenI y_87.1), isI .i64 x_412, isRep (.sl (.int .u8)) (Kx K w.heap.size [some b_93, some b_1]) s_415, isI .i64 t_416, isI .i64 t_416] [[], [], [(0, 141), (1, 142)], [], [(3, 144)], [], [(5, 146)], [(6, 147)], [(7, 148)], [(4, 145), (8, 149)], [(2, 143), (9, 150)], [(10, 151)]] (by kernel_rfl) (by rw [S.size]; kernel_rfl) (by kernel_rfl) (by kernel_rfl) rfl ⟨(stab_rep hR), stab_I, (stab_rep hR), (stab_eqv _), (stab_rep hR), (stab_eqv _), (stab_rep hR), stab_I, stab_I, (stab_rep hR), stab_I, stab_I, trivial⟩ ?_ ?_
        ·
         refine RunAll.cons (isRep (.sl gt2) (Kx K w.heap.size [some b_93, some b_1]) c_68) [] rfl rfl ?_ ?_
         ·intro W_ hW
          have S1 := S
          refine fill_nil S1 ?_; clear S1; intro a_ S1
          replace R_70 := R_70.step hW
          have S0 := S.defers; replace S := S1; clear S1
          refine wl_pure (l' := [(141, v_69), (140, .bool q_399), (13, .bool q_129), (12, pB b_93), (11, .int .i64 c_64), (10, .int .i64 c_66), (1, v1), (5, pB b_1), (7, v_69)]) S tys tys_ok 1 (by kernel_rfl) ?_; clear S; intro a S
          refine wpList_nil ?_
          exact RPost.mk_ S rfl S0 R_70 (Below.refl _ _)
         refine RunAll.cons (isI .i64 c_64) [] rfl rfl ?_ ?_
         ·intro W_ hW
          have S1 := S
          refine fill_nil S1 ?_; clear S1; intro a_ S1
          have S0 := S.defers; replace S := S1; clear S1
          refine wl_pure (l' := [(142, .int .i64 c_64), (140, .bool q_399), (13, .bool q_129), (12, pB b_93), (11, .int .i64 c_64), (10, .int .i64 c_66), (1, v1), (5, pB b_1), (7, v_69)]) S tys tys_ok 1 (by kernel_rfl) ?_; clear S; intro a S
          refine wpList_nil ?_
          exact RPost.mk_ S rfl S0 ⟨rfl, G_65⟩ (Below.refl _ _)
         refine RunAll.cons (isRep (.sl gt2) (Kx K w.heap.size [some b_93, some b_1]) s_406) [(isRep (.sl gt2) (Kx K w.heap.size [some b_93, some b_1]) c_68, 141), (isI .i64 c_64, 142)] rfl rfl ?_ ?_
         ·intro W_ hW
          have S1 := S
          intro v_422 hF_421; replace hF_421 : RepV _ _ _ _ _ := hF_421
          replace S1 := S1.put (by decide : 141 < 327) (v_422)
          rintro _ ⟨rfl, hF_423⟩
          replace S1 := S1.put (by decide : 142 < 327) (.int .i64 c_64)
          refine fill_nil S1 ?_; clear S1; intro a_ S1
          have S0 := S.defers; replace S := S1; clear S1
          refine w_go S rfl (op_slice S rfl ty25 rfl rfl rfl hF_421 (.inl ⟨rfl, rfl⟩) (.inr ⟨_, _, rfl, rfl⟩) es_406 ?_)
          clear S; intro a v_425 R_426 S
          refine wpList_nil ?_
          exact RPost.mk_ S rfl S0 R_426 (Below.refl _ _)
         refine RunAll.cons (eqv (.pointer (some ((⟨b_93, 0, .none⟩ : Addr).add (coff gf2 0))))) [] rfl rfl ?_ ?_
         ·intro W_ hW
          have S1 := S
          refine fill_nil S1 ?_; clear S1; intro a_ S1
          replace B_94 := B_94.step hW
          have S0 := S.defers; replace S := S1; clear S1
          refine wl_pure (l' := [(144, .pointer (some ((⟨b_93, 0, .none⟩ : Addr).add (coff gf2 0)))), (140, .bool q_399), (13, .bool q_129), (12, pB b_93), (11, .int .i64 c_64), (10, .int .i64 c_66), (1, v1), (5, pB b_1), (7, v_69)]) S tys tys_ok 1 (by kernel_rfl) ?_; clear S; intro a S
          refine wpList_nil ?_
          exact RPost.mk_ S rfl S0 rfl (Below.refl _ _)
         refine RunAll.cons (isRep (.sl (.int .u8)) (Kx K w.heap.size [some b_93, some b_1]) y_87.1) [(eqv (.pointer (some ((⟨b_93, 0, .none⟩ : Addr).add (coff gf2 0)))), 144)] rfl rfl ?_ ?_
         ·intro W_ hW
          have S1 := S
          intro v_428 hF_427; obtain rfl : .pointer (some ((⟨b_93, 0, .none⟩ : Addr).add (coff gf2 0))) = v_428 := Eq.symm hF_427
          replace S1 := S1.put (by decide : 144 < 327) (.pointer (some ((⟨b_93, 0, .none⟩ : Addr).add (coff gf2 0))))
          refine fill_nil S1 ?_; clear S1; intro a_ S1
          replace B_94 := B_94.step hW
          have S0 := S.defers; replace S := S1; clear S1
          refine w_go S rfl (op_load (t := (.sl (.int .u8))) (x := y_87.1) S rfl ty35 rfl rfl rfl (RepAt.add 0 (RepAt.st (t := gf2) B_94.at_)) ?_)
          clear S; intro a v_429 R_430 S
          refine wpList_nil ?_
          exact RPost.mk_ S rfl S0 R_430 (Below.refl _ _)
         refine RunAll.cons (eqv (.pointer (some ((⟨b_93, 0, .none⟩ : Addr).add (coff gf2 0))))) [] rfl rfl ?_ ?_
         ·intro W_ hW
          have S1 := S
          refine fill_nil S1 ?_; clear S1; intro a_ S1
          replace B_94 := B_94.step hW
          have S0 := S.defers; replace S := S1; clear S1
          refine wl_pure (l' := [(146, .pointer (some ((⟨b_93, 0, .none⟩ : Addr).add (coff gf2 0)))), (140, .bool q_399), (13, .bool q_129), (12, pB b_93), (11, .int .i64 c_64), (10, .int .i64 c_66), (1, v1), (5, pB b_1), (7, v_69)]) S tys tys_ok 1 (by kernel_rfl) ?_; clear S; intro a S
          refine wpList_nil ?_
          exact RPost.mk_ S rfl S0 rfl (Below.refl _ _)
         refine RunAll.cons (isRep (.sl (.int .u8)) (Kx K w.heap.size [some b_93, some b_1]) y_87.1) [(eqv (.pointer (some ((⟨b_93, 0, .none⟩ : Addr).add (coff gf2 0)))), 146)] rfl rfl ?_ ?_
         ·intro W_ hW
          have S1 := S
          intro v_432 hF_431; obtain rfl : .pointer (some ((⟨b_93, 0, .none⟩ : Addr).add (coff gf2 0))) = v_432 := Eq.symm hF_431
          replace S1 := S1.put (by decide : 146 < 327) (.pointer (some ((⟨b_93, 0, .none⟩ : Addr).add (coff gf2 0))))
          refine fill_nil S1 ?_; clear S1; intro a_ S1
          replace B_94 := B_94.step hW
          have S0 := S.defers; replace S := S1; clear S1
          refine w_go S rfl (op_load (t := (.sl (.int .u8))) (x := y_87.1) S rfl ty35 rfl rfl rfl (RepAt.add 0 (RepAt.st (t := gf2) B_94.at_)) ?_)
          clear S; intro a v_433 R_434 S
          refine wpList_nil ?_
          exact RPost.mk_ S rfl S0 R_434 (Below.refl _ _)
         refine RunAll.cons (isI .i64 (lenI y_87.1)) [(isRep (.sl (.int .u8)) (Kx K w.heap.size [some b_93, some b_1]) y_87.1, 147)] rfl rfl ?_ ?_
         ·intro W_ hW
          have S1 := S
          intro v_436 hF_435; replace hF_435 : RepV _ _ _ _ _ := hF_435
          replace S1 := S1.put (by decide : 147 < 327) (v_436)
          refine fill_nil S1 ?_; clear S1; intro a_ S1
          replace W := W.step hW
          have S0 := S.defers; replace S := S1; clear S1
          refine w_go S rfl (op_len (K := _) S rfl ty35 rfl rfl rfl hF_435 ?_)
          clear S; intro a G_437 S
          refine wpList_nil ?_
          exact RPost.mk_ S rfl S0 ⟨rfl, G_437⟩ (Below.refl _ _)
         refine RunAll.cons (isI .i64 x_412) [(isI .i64 (lenI y_87.1), 148)] rfl rfl ?_ ?_
         ·intro W_ hW
          have S1 := S
          rintro _ ⟨rfl, hF_438⟩
          replace S1 := S1.put (by decide : 148 < 327) (.int .i64 (lenI y_87.1))
          refine fill_nil S1 ?_; clear S1; intro a_ S1
          have S0 := S.defers; replace S := S1; clear S1
          refine w_go S rfl (op_arith S .i64 ((lenI y_87.1) - 1) rfl (.inr (.inl rfl)) rfl rfl rfl rfl ex_412 ?_)
          clear S; intro a S
          refine wpList_nil ?_
          exact RPost.mk_ S rfl S0 ⟨rfl, (ckI_some ex_412).2.1⟩ (Below.refl _ _)
         refine RunAll.cons (isRep (.sl (.int .u8)) (Kx K w.heap.size [some b_93, some b_1]) s_415) [(isRep (.sl (.int .u8)) (Kx K w.heap.size [some b_93, some b_1]) y_87.1, 145), (isI .i64 x_412, 149)] rfl rfl ?_ ?_
         ·intro W_ hW
          have S1 := S
          intro v_441 hF_440; replace hF_440 : RepV _ _ _ _ _ := hF_440
          replace S1 := S1.put (by decide : 145 < 327) (v_441)
          rintro _ ⟨rfl, hF_442⟩
          replace S1 := S1.put (by decide : 149 < 327) (.int .i64 x_412)
          refine fill_nil S1 ?_; clear S1; intro a_ S1
          have S0 := S.defers; replace S := S1; clear S1
          refine w_go S rfl (op_slice S rfl ty35 rfl rfl rfl hF_440 (.inl ⟨rfl, rfl⟩) (.inr ⟨_, _, rfl, rfl⟩) es_415 ?_)
          clear S; intro a v_444 R_445 S
          refine wpList_nil ?_
          exact RPost.mk_ S rfl S0 R_445 (Below.refl _ _)
         refine RunAll.cons (isI .i64 t_416) [(isRep (.sl gt2) (Kx K w.heap.size [some b_93, some b_1]) s_406, 143), (isRep (.sl (.int .u8)) (Kx K w.heap.size [some b_93, some b_1]) s_415, 150)] rfl rfl ?_ ?_
         ·intro W_ hW
          have S1 := S
          intro v_447 hF_446; replace hF_446 : RepV _ _ _ _ _ := hF_446
          replace S1 := S1.put (by decide : 143 < 327) (v_447)
          intro v_449 hF_448; replace hF_448 : RepV _ _ _ _ _ := hF_448
          replace S1 := S1.put (by decide : 150 < 327) (v_449)
          refine fill_nil S1 ?_; clear S1; intro a_ S1
          replace W := W.step hW
          have S0 := S.defers; replace S := S1; clear S1
          refine w_go S rfl (op_call (vs := [v_447, v_449]) S rfl cb10 rfl rfl rfl (c10 (Kx K w.heap.size [some b_93, some b_1]) n W_ s_406 _ hF_446 s_415 _ hF_448 et_416) ?_)
          rintro _ w_453 ⟨v_450, rfl, R_451, hb_452⟩; refine ⟨_, rfl, ?_⟩
          replace R_451 := RepV.back R_451 W
          clear S; intro a S
          obtain ⟨rfl, GR_451⟩ := RepV.int R_451
          refine wpList_nil ?_
          exact RPost.mk_ S rfl S0 ⟨rfl, GR_451⟩ (hb_452)
         refine RunAll.cons (isI .i64 t_416) [(isI .i64 t_416, 151)] rfl rfl ?_ ?_
         ·intro W_ hW
          have S1 := S
          rintro _ ⟨rfl, hF_454⟩
          replace S1 := S1.put (by decide : 151 < 327) (.int .i64 t_416)
          refine fill_nil S1 ?_; clear S1; intro a_ S1
          have S0 := S.defers; replace S := S1; clear S1
          refine wl_pure (l' := [(14, .int .i64 t_416), (151, .int .i64 t_416), (140, .bool q_399), (13, .bool q_129), (12, pB b_93), (11, .int .i64 c_64), (10, .int .i64 c_66), (1, v1), (5, pB b_1), (7, v_69)]) S tys tys_ok 1 (by kernel_rfl) ?_; clear S; intro a S
          refine wpList_nil ?_
          exact RPost.mk_ S rfl S0 ⟨rfl, hF_454⟩ (Below.refl _ _)
         exact trivial
        intro w_456 hb_457
        refine EndE.some_ rfl ?_
        intro v_459 hF_458; replace hF_458 : RepV _ _ _ _ _ := hF_458
        replace S := S.put (by decide : 141 < 327) (v_459)
        refine EndE.some_ rfl ?_
        rintro _ ⟨rfl, hF_460⟩
        replace S := S.put (by decide : 142 < 327) (.int .i64 c_64)
        refine EndE.some_ rfl ?_
        intro v_463 hF_462; replace hF_462 : RepV _ _ _ _ _ := hF_462
        replace S := S.put (by decide : 143 < 327) (v_463)
        refine EndE.some_ rfl ?_
        intro v_465 hF_464; obtain rfl : .pointer (some ((⟨b_93, 0, .none⟩ : Addr).add (coff gf2 0))) = v_465 := Eq.symm hF_464
        replace S := S.put (by decide : 144 < 327) (.pointer (some ((⟨b_93, 0, .none⟩ : Addr).add (coff gf2 0))))
        refine EndE.some_ rfl ?_
        intro v_467 hF_466; replace hF_466 : RepV _ _ _ _ _ := hF_466
        replace S := S.put (by decide : 145 < 327) (v_467)
        refine EndE.some_ rfl ?_
        intro v_469 hF_468; obtain rfl : .pointer (some ((⟨b_93, 0, .none⟩ : Addr).add (coff gf2 0))) = v_469 := Eq.symm hF_468
        replace S := S.put (by decide : 146 < 327) (.pointer (some ((⟨b_93, 0, .none⟩ : Addr).add (coff gf2 0))))
        refine EndE.some_ rfl ?_
        intro v_471 hF_470; replace hF_470 : RepV _ _ _ _ _ := hF_470
        replace S := S.put (by decide : 147 < 327) (v_471)
        refine EndE.some_ rfl ?_
        rintro _ ⟨rfl, hF_472⟩
        replace S := S.put (by decide : 148 < 327) (.int .i64 (lenI y_87.1))
        refine EndE.some_ rfl ?_
        rintro _ ⟨rfl, hF_474⟩
        replace S := S.put (by decide : 149 < 327) (.int .i64 x_412)
        refine EndE.some_ rfl ?_
        intro v_477 hF_476; replace hF_476 : RepV _ _ _ _ _ := hF_476
        replace S := S.put (by decide : 150 < 327) (v_477)
        refine EndE.some_ rfl ?_
        rintro _ ⟨rfl, hF_478⟩
        replace S := S.put (by decide : 151 < 327) (.int .i64 t_416)
        refine EndE.some_ rfl ?_
        rintro _ ⟨rfl, hF_480⟩
        replace S := S.put (by decide : 14 < 327) (.int .i64 t_416)
        refine endE_nil S ?_; clear S; intro a S
        replace R1 := R1.step hb_457
        replace R_70 := R_70.step hb_457
        replace B_2 := B_2.step hb_457
        replace B_94 := B_94.step hb_457
        replace W := W.step hb_457
        refine then_n ?_
        replace S := S.sub (l' := [(14, .int .i64 t_416), (12, pB b_93), (11, .int .i64 c_64), (10, .int .i64 c_66), (1, v1), (5, pB b_1), (7, v_69)]) (by exact ⟨rfl, rfl, rfl, rfl, rfl, rfl, rfl, trivial⟩)
        refine wp_region_lit ?_
        refine wl_pure (l' := [(154, .bool (decide (t_416 ≥ 0))), (153, .bool (decide (t_416 ≥ 0))), (152, .int .i64 t_416), (14, .int .i64 t_416), (12, pB b_93), (11, .int .i64 c_64), (10, .int .i64 c_66), (1, v1), (5, pB b_1), (7, v_69)]) S tys tys_ok 3 (by kernel_rfl) ?_
        clear S; intro a S
        obtain ⟨q_482, eq_482, ej_403⟩ := bindS ej_403
        refine seg 11 (fun a_ w_ => w_456 = w_ ∧ St 327 a_ [(165, .bool q_482), (11, .int .i64 c_64), (10, .int .i64 c_66), (1, v1), (5, pB b_1), (7, v_69)]) ?_ ?_
        ·by_cases hc : (decide (t_416 ≥ 0)) = true
         ·rw [if_pos hc] at eq_482; rw [hc] at S
          refine wl_pureK (l' := [(155, .pointer (some ((⟨b_93, 0, .none⟩ : Addr).add (coff gf2 3)))), (154, .bool true), (14, .int .i64 t_416), (11, .int .i64 c_64), (10, .int .i64 c_66), (1, v1), (5, pB b_1), (7, v_69)]) S tys tys_ok 1 [155, 154, 14, 11, 10, 1, 5, 7] (by kernel_rfl) ?_
          clear S; intro a S
          refine w_go S rfl (op_load (t := .bool) (x := y_87.2.2.2.1) S rfl ty4 rfl rfl rfl (RepAt.add 3 (RepAt.st (t := gf2) B_94.at_)) ?_)
          clear S; intro a v_483 R_484 S
          obtain rfl := RepV.bool R_484
          refine wl_pure (l' := [(157, .bool y_87.2.2.2.1), (156, .bool y_87.2.2.2.1), (155, .pointer (some ((⟨b_93, 0, .none⟩ : Addr).add (coff gf2 3)))), (154, .bool true), (14, .int .i64 t_416), (11, .int .i64 c_64), (10, .int .i64 c_66), (1, v1), (5, pB b_1), (7, v_69)]) S tys tys_ok 1 (by kernel_rfl) ?_
          clear S; intro a S
          obtain ⟨q_485, eq_485, eq_482⟩ := bindS eq_482
          refine seg 7 (fun a_ w_ => w_456 = w_ ∧ St 327 a_ [(164, .bool q_485), (157, .bool y_87.2.2.2.1), (156, .bool y_87.2.2.2.1), (155, .pointer (some ((⟨b_93, 0, .none⟩ : Addr).add (coff gf2 3)))), (154, .bool true), (11, .int .i64 c_64), (10, .int .i64 c_66), (1, v1), (5, pB b_1), (7, v_69)]) ?_ ?_
          ·by_cases hc : y_87.2.2.2.1 = false
           ·rw [if_pos hc] at eq_485; rw [hc] at S
            refine wl_pure (l' := [(159, .int .i64 t_416), (158, v_69), (157, .bool false), (156, .bool false), (155, .pointer (some ((⟨b_93, 0, .none⟩ : Addr).add (coff gf2 3)))), (154, .bool true), (14, .int .i64 t_416), (11, .int .i64 c_64), (10, .int .i64 c_66), (1, v1), (5, pB b_1), (7, v_69)]) S tys tys_ok 2 (by kernel_rfl) ?_
            clear S; intro a S
            obtain ⟨y_486, ey_486, eq_485⟩ := bindS eq_485
            refine w_go S rfl (op_indexAddr S rfl ty25 rfl rfl rfl R_70 rfl ey_486 ?_)
            clear S; intro a p_487 R_488 H_489 S
            refine wl_pure (l' := [(161, .pointer (some (p_487.add (coff gf2 3)))), (160, .pointer (some p_487)), (159, .int .i64 t_416), (158, v_69), (157, .bool false), (156, .bool false), (155, .pointer (some ((⟨b_93, 0, .none⟩ : Addr).add (coff gf2 3)))), (154, .bool true), (14, .int .i64 t_416), (11, .int .i64 c_64), (10, .int .i64 c_66), (1, v1), (5, pB b_1), (7, v_69)]) S tys tys_ok 1 (by kernel_rfl) ?_
            clear S; intro a S
            refine w_go S rfl (op_load (t := .bool) (x := y_486.2.2.2.1) S rfl ty4 rfl rfl rfl (RepAt.add 3 (RepAt.st (t := gf2) R_488)) ?_)
            clear S; intro a v_490 R_491 S
            obtain rfl := RepV.bool R_491
            refine wl_pure (l' := [(164, .bool (!y_486.2.2.2.1)), (163, .bool (!y_486.2.2.2.1)), (162, .bool y_486.2.2.2.1), (161, .pointer (some (p_487.add (coff gf2 3)))), (160, .pointer (some p_487)), (159, .int .i64 t_416), (158, v_69), (157, .bool false), (156, .bool false), (155, .pointer (some ((⟨b_93, 0, .none⟩ : Addr).add (coff gf2 3)))), (154, .bool true), (14, .int .i64 t_416), (11, .int .i64 c_64), (10, .int .i64 c_66), (1, v1), (5, pB b_1), (7, v_69)]) S tys tys_ok 2 (by kernel_rfl) ?_
            clear S; intro a S
            obtain rfl := Option.some.inj eq_485
            exact ⟨rfl, S.sub (by exact ⟨rfl, (by rw [show y_87.2.2.2.1 = false from hc]; rfl), (by rw [show y_87.2.2.2.1 = false from hc]; rfl), rfl, rfl, rfl, rfl, rfl, rfl, rfl, trivial⟩)⟩
           ·rw [if_neg hc] at eq_485; rw [show y_87.2.2.2.1 = true from (by simpa using hc)] at S
            refine wl_pure (l' := [(164, .bool true), (163, undef), (162, undef), (161, undef), (160, undef), (159, undef), (158, undef), (157, .bool true), (156, .bool true), (155, .pointer (some ((⟨b_93, 0, .none⟩ : Addr).add (coff gf2 3)))), (154, .bool true), (14, .int .i64 t_416), (11, .int .i64 c_64), (10, .int .i64 c_66), (1, v1), (5, pB b_1), (7, v_69)]) S tys tys_ok 7 (by kernel_rfl) ?_
            clear S; intro a S
            obtain rfl := Option.some.inj eq_485
            exact ⟨rfl, S.sub (by exact ⟨rfl, (by rw [show y_87.2.2.2.1 = true from (by simpa using hc)]; rfl), (by rw [show y_87.2.2.2.1 = true from (by simpa using hc)]; rfl), rfl, rfl, rfl, rfl, rfl, rfl, rfl, trivial⟩)⟩
          clear S eq_485; rintro a _ ⟨rfl, S⟩
          refine wl_pure (l' := [(165, .bool q_485), (164, .bool q_485), (157, .bool y_87.2.2.2.1), (156, .bool y_87.2.2.2.1), (155, .pointer (some ((⟨b_93, 0, .none⟩ : Addr).add (coff gf2 3)))), (154, .bool true), (11, .int .i64 c_64), (10, .int .i64 c_66), (1, v1), (5, pB b_1), (7, v_69)]) S tys tys_ok 1 (by kernel_rfl) ?_
          clear S; intro a S
          obtain rfl := Option.some.inj eq_482
          exact ⟨rfl, S.sub (by exact ⟨rfl, rfl, rfl, rfl, rfl, rfl, trivial⟩)⟩
         ·rw [if_neg hc] at eq_482; rw [show (decide (t_416 ≥ 0)) = false from Bool.eq_false_iff.2 hc] at S
          refine wl_pureK (l' := [(165, .bool false), (164, undef), (163, undef), (162, undef), (161, undef), (160, undef), (159, undef), (158, undef), (157, undef), (156, undef), (155, undef), (11, .int .i64 c_64), (10, .int .i64 c_66), (1, v1), (5, pB b_1), (7, v_69)]) S tys tys_ok 11 [165, 164, 163, 162, 161, 160, 159, 158, 157, 156, 155, 11, 10, 1, 5, 7] (by kernel_rfl) ?_
          clear S; intro a S
          obtain rfl := Option.some.inj eq_482
          exact ⟨rfl, S.sub (by exact ⟨rfl, rfl, rfl, rfl, rfl, rfl, trivial⟩)⟩
        clear S eq_482; rintro a _ ⟨rfl, S⟩
        refine wl_pure (l' := [(13, .bool q_482), (165, .bool q_482), (11, .int .i64 c_64), (10, .int .i64 c_66), (1, v1), (5, pB b_1), (7, v_69)]) S tys tys_ok 1 (by kernel_rfl) ?_
        clear S; intro a S
        refine wpList_nil ?_
        refine then_n ?_
        obtain rfl := Option.some.inj ej_403
        exact ⟨S.sub (by exact ⟨rfl, rfl, rfl, rfl, rfl, rfl, trivial⟩), W, R1, R_70, B_2, B_94⟩
       ·intro hc
        rw [if_neg (Bool.eq_false_iff.1 hc)] at ej_403
        refine wp_skip ?_
        refine then_n ?_
        obtain rfl := Option.some.inj ej_403
        exact ⟨S.sub (by exact ⟨rfl, rfl, rfl, rfl, rfl, rfl, trivial⟩), W, R1, R_70, B_2, B_94⟩
      clear S W; rintro a w_492 ⟨S, W, R1, R_70, B_2, B_94⟩
      refine then_n ?_
      refine wp_seq ?_
      refine wp_region_lit ?_
      refine wl_pure (l' := [(167, .bool (!j_403)), (166, .bool j_403), (13, .bool j_403), (11, .int .i64 c_64), (10, .int .i64 c_66), (1, v1), (5, pB b_1), (7, v_69)]) S tys tys_ok 2 (by kernel_rfl) ?_
      clear S; intro a S
      refine wpList_nil ?_
      refine then_n ?_
      replace S := S.sub (l' := [(167, .bool (!j_403)), (11, .int .i64 c_64), (10, .int .i64 c_66), (1, v1), (5, pB b_1), (7, v_69)]) (by exact ⟨rfl, rfl, rfl, rfl, rfl, rfl, trivial⟩)
      obtain ⟨j_493, ej_493, hl_83⟩ := bindS hl_83
      refine wp_cut_ (fun a_ w_ => St 327 a_ [(11, .int .i64 c_64), (10, .int .i64 j_493), (1, v1), (5, pB b_1), (7, v_69)] ∧ Wd w w_ [some b_93, some b_1] ∧ InR .i64 j_493 ∧ RepV (.sl (.int .u8)) w_ (Kx K w.heap.size [some b_93, some b_1]) v1 x1 ∧ RepV (.sl gt2) w_ (Kx K w.heap.size [some b_93, some b_1]) v_69 c_68 ∧ Bx (.arr 2 (.int .i64)) 44 w_ (Kx K w.heap.size [some b_93, some b_1]) b_1 x2 ∧ Bx gt2 37 w_ (Kx K w.heap.size [some b_93, some b_1]) b_93 y_87) ?_ ?_
      ·refine wp_cond_split (S.eval (show ev _ _ = some (.bool (!j_403)) from rfl)) ?_ ?_
       ·intro hc
        rw [if_pos hc] at ej_493
        refine wp_region_lit ?_
        refine wl_pure (l' := [(10, .int .i64 1), (167, .bool (!j_403)), (11, .int .i64 c_64), (10, .int .i64 c_66), (1, v1), (5, pB b_1), (7, v_69)]) S tys tys_ok 1 (by kernel_rfl) ?_
        clear S; intro a S
        refine wpList_nil ?_
        refine then_n ?_
        obtain rfl := Option.some.inj ej_493
        exact ⟨S.sub (by exact ⟨rfl, rfl, rfl, rfl, rfl, trivial⟩), W, (by decide), R1, R_70, B_2, B_94⟩
       ·intro hc
        rw [if_neg (Bool.eq_false_iff.1 hc)] at ej_493
        refine wp_skip ?_
        refine then_n ?_
        obtain rfl := Option.some.inj ej_493
        exact ⟨S.sub (by exact ⟨rfl, rfl, rfl, rfl, rfl, trivial⟩), W, G_67, R1, R_70, B_2, B_94⟩
      clear S W; rintro a w_495 ⟨S, W, G_494, R1, R_70, B_2, B_94⟩
      refine blk_n ?_
      refine then_n ?_
      refine wp_region_lit ?_
      refine wl_pure (l' := [(73, .int .i64 c_64), (11, .int .i64 c_64), (10, .int .i64 j_493), (1, v1), (5, pB b_1), (7, v_69)]) S tys tys_ok 1 (by kernel_rfl) ?_
      clear S; intro a S
      obtain ⟨x_496, ex_496, hl_83⟩ := bindS hl_83
      refine w_go S rfl (op_arith S .i64 (c_64 + 1) rfl (.inl rfl) rfl rfl rfl rfl ex_496 ?_)
      clear S; intro a S
      refine wl_pure (l' := [(11, .int .i64 x_496), (74, .int .i64 x_496), (73, .int .i64 c_64), (11, .int .i64 c_64), (10, .int .i64 j_493), (1, v1), (5, pB b_1), (7, v_69)]) S tys tys_ok 1 (by kernel_rfl) ?_
      clear S; intro a S
      refine wpList_nil ?_
      refine then_n ?_
      exact ⟨x_496, j_493, c_68, ⟨v_69, S.sub (by exact ⟨rfl, rfl, rfl, rfl, rfl, trivial⟩), (W.drop 1), (ckI_some ex_496).2.1, G_494, (R1.drop 1), (R_70.drop 1), (B_2.drop 1), hl_83⟩⟩
     ·intro hc
      rw [if_neg (Bool.eq_false_iff.1 hc)] at hl_83
      refine wp_exit ?_
      refine then_x ?_
      refine then_x ?_
      refine blk_hit ?_
      refine then_n ?_
      obtain rfl := Option.some.inj hl_83
      exact ⟨v_69, S.sub (by exact ⟨rfl, rfl, rfl, rfl, trivial⟩), W, G_67, R1, R_70, B_2⟩
  clear S W; rintro a w_497 ⟨v_79, S, W, G_81, R1, R_80, B_2⟩
  refine then_n ?_
  refine wp_seq ?_
  refine wp_seq ?_
  refine wp_region_lit ?_
  refine wl_pure (l' := [(168, v_79), (1, v1), (5, pB b_1), (7, v_79), (10, .int .i64 y_78.2)]) S tys tys_ok 1 (by kernel_rfl) ?_
  clear S; intro a S
  refine w_go S rfl (op_len (K := _) S rfl ty25 rfl rfl rfl R_80 ?_)
  clear S; intro a G_498 S
  refine wl_pure (l' := [(170, .bool (decide ((lenI y_78.1) > 127))), (169, .int .i64 (lenI y_78.1)), (168, v_79), (1, v1), (5, pB b_1), (7, v_79), (10, .int .i64 y_78.2)]) S tys tys_ok 1 (by kernel_rfl) ?_
  clear S; intro a S
  refine wpList_nil ?_
  refine then_n ?_
  replace S := S.sub (l' := [(170, .bool (decide ((lenI y_78.1) > 127))), (1, v1), (5, pB b_1), (7, v_79), (10, .int .i64 y_78.2)]) (by exact ⟨rfl, rfl, rfl, rfl, rfl, trivial⟩)
  obtain ⟨j_499, ej_499, h⟩ := bindS h
  refine wp_cut_ (fun a_ w_ => St 327 a_ [(1, v1), (5, pB b_1), (7, v_79), (10, .int .i64 j_499)] ∧ Wd w w_ [some b_1] ∧ InR .i64 j_499 ∧ RepV (.sl (.int .u8)) w_ (Kx K w.heap.size [some b_1]) v1 x1 ∧ RepV (.sl gt2) w_ (Kx K w.heap.size [some b_1]) v_79 y_78.1 ∧ Bx (.arr 2 (.int .i64)) 44 w_ (Kx K w.heap.size [some b_1]) b_1 x2) ?_ ?_
  ·refine wp_cond_split (S.eval (show ev _ _ = some (.bool (decide ((lenI y_78.1) > 127))) from rfl)) ?_ ?_
   ·intro hc
    rw [if_pos hc] at ej_499
    refine wp_region_lit ?_
    refine wl_pure (l' := [(10, .int .i64 3), (170, .bool (decide ((lenI y_78.1) > 127))), (1, v1), (5, pB b_1), (7, v_79), (10, .int .i64 y_78.2)]) S tys tys_ok 1 (by kernel_rfl) ?_
    clear S; intro a S
    refine wpList_nil ?_
    refine then_n ?_
    obtain rfl := Option.some.inj ej_499
    exact ⟨S.sub (by exact ⟨rfl, rfl, rfl, rfl, trivial⟩), W, (by decide), R1, R_80, B_2⟩
   ·intro hc
    rw [if_neg (Bool.eq_false_iff.1 hc)] at ej_499
    refine wp_skip ?_
    refine then_n ?_
    obtain rfl := Option.some.inj ej_499
    exact ⟨S.sub (by exact ⟨rfl, rfl, rfl, rfl, trivial⟩), W, G_81, R1, R_80, B_2⟩
  clear S W; rintro a w_501 ⟨S, W, G_500, R1, R_80, B_2⟩
  refine then_n ?_
  refine wp_seq ?_
  refine wp_region_lit ?_
  refine wl_pure (l' := [(173, v1), (172, v_79), (1, v1), (5, pB b_1), (7, v_79), (10, .int .i64 j_499)]) S tys tys_ok 2 (by kernel_rfl) ?_
  clear S; intro a S
  obtain ⟨t_502, et_502, h⟩ := bindS h
  refine w_go S rfl (op_call (vs := [v_79, v1, .bool true]) S rfl cb15 rfl rfl rfl (c15 (Kx K w.heap.size [some b_1]) n w_501 y_78.1 _ R_80 x1 _ R1 true et_502) ?_)
  rintro _ w_510 ⟨v_503, v_504, v_505, rfl, R_506, R_507, R_508, hb_509⟩; refine ⟨_, rfl, ?_⟩
  replace R_506 := RepV.back R_506 W
  replace R_507 := RepV.back R_507 W
  replace R_508 := RepV.back R_508 W
  clear S; intro a S
  replace R1 := R1.step hb_509
  replace R_80 := R_80.step hb_509
  replace B_2 := B_2.step hb_509
  replace W := W.step hb_509
  obtain ⟨rfl, GR_508⟩ := RepV.int R_508
  refine wl_pureK (l' := [(17, .int .i64 t_502.2.2), (15, v_503), (1, v1), (5, pB b_1), (7, v_79), (10, .int .i64 j_499)]) S tys tys_ok 7 [17, 15, 1, 5, 7, 10] (by kernel_rfl) ?_
  clear S; intro a S
  refine wpList_nil ?_
  refine then_n ?_
  refine wp_seq ?_
  refine wp_region_lit ?_
  refine wl_pure (l' := [(180, v1), (179, v_79), (17, .int .i64 t_502.2.2), (15, v_503), (1, v1), (5, pB b_1), (7, v_79), (10, .int .i64 j_499)]) S tys tys_ok 2 (by kernel_rfl) ?_
  clear S; intro a S
  obtain ⟨t_511, et_511, h⟩ := bindS h
  refine w_go S rfl (op_call (vs := [v_79, v1]) S rfl cb16 rfl rfl rfl (c16 (Kx K w.heap.size [some b_1]) n w_510 y_78.1 _ R_80 x1 _ R1 et_511) ?_)
  rintro _ w_517 ⟨v_512, v_513, rfl, R_514, R_515, hb_516⟩; refine ⟨_, rfl, ?_⟩
  have NO_ := newO_of R_514 (Nat.le_refl _) hb_516
  replace R_514 := Ow.backO R_514 W
  replace R_515 := RepV.backO R_515 W
  clear S; intro a S
  replace R1 := R1.newO NO_
  replace R_80 := R_80.newO NO_
  replace R_506 := R_506.newO NO_
  replace B_2 := B_2.newO NO_
  replace W := W.newO NO_
  clear NO_
  obtain ⟨rfl, GR_515⟩ := RepV.int R_515
  refine wl_pureK (l' := [(19, .int .i64 t_511.2), (18, v_512), (17, .int .i64 t_502.2.2), (15, v_503), (1, v1), (5, pB b_1), (7, v_79), (10, .int .i64 j_499)]) S tys tys_ok 5 [19, 18, 17, 15, 1, 5, 7, 10] (by kernel_rfl) ?_
  clear S; intro a S
  refine wpList_nil ?_
  refine then_n ?_
  refine wp_seq ?_
  refine wp_region_lit ?_
  refine wl_pure (l' := [(186, v1), (185, v_79), (19, .int .i64 t_511.2), (18, v_512), (17, .int .i64 t_502.2.2), (15, v_503), (1, v1), (5, pB b_1), (7, v_79), (10, .int .i64 j_499)]) S tys tys_ok 2 (by kernel_rfl) ?_
  clear S; intro a S
  obtain ⟨t_518, et_518, h⟩ := bindS h
  refine w_go S rfl (op_call (vs := [v_79, v1, .bool true]) S rfl cb17 rfl rfl rfl (c17 (Kx K w.heap.size [v_512.ownBlock, some b_1]) n w_517 y_78.1 _ R_80 x1 _ R1 true et_518) ?_)
  rintro _ w_526 ⟨v_519, v_520, v_521, rfl, R_522, R_523, R_524, hb_525⟩; refine ⟨_, rfl, ?_⟩
  have NO_ := newO_of R_522 (Nat.le_refl _) hb_525
  replace R_522 := Ow.backO R_522 W
  replace R_523 := RepV.backO R_523 W
  replace R_524 := RepV.backO R_524 W
  clear S; intro a S
  replace R1 := R1.newO NO_
  replace R_80 := R_80.newO NO_
  replace R_506 := R_506.newO NO_
  replace B_2 := B_2.newO NO_
  replace R_514 := R_514.newO NO_
  replace W := W.newO NO_
  clear NO_
  obtain ⟨rfl, GR_524⟩ := RepV.int R_524
  refine wl_pureK (l' := [(22, .int .i64 t_518.2.2), (20, v_519), (19, .int .i64 t_511.2), (18, v_512), (17, .int .i64 t_502.2.2), (15, v_503), (1, v1), (5, pB b_1), (7, v_79), (10, .int .i64 j_499)]) S tys tys_ok 7 [22, 20, 19, 18, 17, 15, 1, 5, 7, 10] (by kernel_rfl) ?_
  clear S; intro a S
  refine wpList_nil ?_
  refine then_n ?_
  refine wp_seq ?_
  refine wp_region_lit ?_
  refine wl_pure (l' := [(193, v1), (192, v_79), (22, .int .i64 t_518.2.2), (20, v_519), (19, .int .i64 t_511.2), (18, v_512), (17, .int .i64 t_502.2.2), (15, v_503), (1, v1), (5, pB b_1), (7, v_79), (10, .int .i64 j_499)]) S tys tys_ok 2 (by kernel_rfl) ?_
  clear S; intro a S
  obtain ⟨t_527, et_527, h⟩ := bindS h
  refine w_go S rfl (op_call (vs := [v_79, v1]) S rfl cb18 rfl rfl rfl (c18 (Kx K w.heap.size [v_519.ownBlock, v_512.ownBlock, some b_1]) n w_526 y_78.1 _ R_80 x1 _ R1 et_527) ?_)
  rintro _ w_535 ⟨v_528, v_529, v_530, rfl, R_531, R_532, R_533, hb_534⟩; refine ⟨_, rfl, ?_⟩
  have NO_ := newO_of R_531 (Nat.le_refl _) hb_534
  replace R_531 := Ow.backO R_531 W
  replace R_532 := RepV.backO R_532 W
  replace R_533 := RepV.backO R_533 W
  clear S; intro a S
  replace R1 := R1.newO NO_
  replace R_80 := R_80.newO NO_
  replace R_506 := R_506.newO NO_
  replace B_2 := B_2.newO NO_
  replace R_514 := R_514.newO NO_
  replace R_522 := R_522.newO NO_
  replace W := W.newO NO_
  clear NO_
  obtain ⟨rfl, GR_533⟩ := RepV.int R_533
  refine wl_pureK (l' := [(25, .int .i64 t_527.2.2), (23, v_528), (22, .int .i64 t_518.2.2), (20, v_519), (19, .int .i64 t_511.2), (18, v_512), (17, .int .i64 t_502.2.2), (15, v_503), (1, v1), (5, pB b_1), (7, v_79), (10, .int .i64 j_499)]) S tys tys_ok 7 [25, 23, 22, 20, 19, 18, 17, 15, 1, 5, 7, 10] (by kernel_rfl) ?_
  clear S; intro a S
  refine wpList_nil ?_
  refine then_n ?_
  refine wp_seq ?_
  refine wp_region_lit ?_
  refine wl_pure (l' := [(199, v_79), (25, .int .i64 t_527.2.2), (23, v_528), (22, .int .i64 t_518.2.2), (20, v_519), (19, .int .i64 t_511.2), (18, v_512), (17, .int .i64 t_502.2.2), (15, v_503), (1, v1), (5, pB b_1), (7, v_79), (10, .int .i64 j_499)]) S tys tys_ok 1 (by kernel_rfl) ?_
  clear S; intro a S
  obtain ⟨y_536, ey_536, h⟩ := bindS h
  refine w_go S rfl (op_indexAddr_arr S rfl ty44 rfl rfl rfl B_2.at_ rfl ey_536 ?_)
  clear S; intro a S
  refine w_go S rfl (op_load (t := (.int .i64)) (x := y_536) S rfl ty3 rfl rfl rfl (RepAt.ix B_2.at_ ey_536) ?_)
  clear S; intro a v_537 R_538 S
  obtain ⟨rfl, GR_538⟩ := RepV.int R_538
  obtain ⟨t_539, et_539, h⟩ := bindS h
  refine w_go S rfl (op_call (vs := [v_79, .int .i64 y_536]) S rfl cb12 rfl rfl rfl (c12 (Kx K w.heap.size [v_528.ownBlock, v_519.ownBlock, v_512.ownBlock, some b_1]) n w_535 y_78.1 _ R_80 y_536 GR_538 et_539) ?_)
  rintro _ w_547 ⟨v_540, v_541, v_542, rfl, R_543, R_544, R_545, hb_546⟩; refine ⟨_, rfl, ?_⟩
  have NO_ := newO_of R_543 (Nat.le_refl _) hb_546
  replace R_543 := Ow.backO R_543 W
  replace R_544 := RepV.backO R_544 W
  replace R_545 := RepV.backO R_545 W
  clear S; intro a S
  replace R1 := R1.newO NO_
  replace R_80 := R_80.newO NO_
  replace R_506 := R_506.newO NO_
  replace B_2 := B_2.newO NO_
  replace R_514 := R_514.newO NO_
  replace R_522 := R_522.newO NO_
  replace R_531 := R_531.newO NO_
  replace W := W.newO NO_
  clear NO_
  obtain ⟨rfl, GR_545⟩ := RepV.int R_545
  refine wl_pureK (l' := [(28, .int .i64 t_539.2.2), (26, v_540), (25, .int .i64 t_527.2.2), (23, v_528), (22, .int .i64 t_518.2.2), (20, v_519), (19, .int .i64 t_511.2), (18, v_512), (17, .int .i64 t_502.2.2), (15, v_503), (1, v1), (5, pB b_1), (7, v_79), (10, .int .i64 j_499)]) S tys tys_ok 7 [28, 26, 25, 23, 22, 20, 19, 18, 17, 15, 1, 5, 7, 10] (by kernel_rfl) ?_
  clear S; intro a S
  refine wpList_nil ?_
  refine then_n ?_
  refine wp_seq ?_
  refine wp_seq ?_
  refine wp_region_lit ?_
  refine wl_pure (l' := [(206, v_79), (28, .int .i64 t_539.2.2), (26, v_540), (25, .int .i64 t_527.2.2), (23, v_528), (22, .int .i64 t_518.2.2), (20, v_519), (19, .int .i64 t_511.2), (18, v_512), (17, .int .i64 t_502.2.2), (15, v_503), (1, v1), (5, pB b_1), (7, v_79), (10, .int .i64 j_499)]) S tys tys_ok 1 (by kernel_rfl) ?_
  clear S; intro a S
  obtain ⟨t_548, et_548, h⟩ := bindS h
  refine w_go S rfl (op_call (vs := [v_79]) S rfl cb19 rfl rfl rfl (c19 (Kx K w.heap.size [v_540.ownBlock, v_528.ownBlock, v_519.ownBlock, v_512.ownBlock, some b_1]) n w_547 y_78.1 _ R_80 et_548) ?_)
  rintro _ w_552 ⟨v_549, rfl, R_550, hb_551⟩; refine ⟨_, rfl, ?_⟩
  replace R_550 := RepV.back R_550 W
  clear S; intro a S
  replace R1 := R1.step hb_551
  replace R_80 := R_80.step hb_551
  replace R_506 := R_506.step hb_551
  replace B_2 := B_2.step hb_551
  replace R_514 := R_514.step hb_551
  replace R_522 := R_522.step hb_551
  replace R_531 := R_531.step hb_551
  replace R_543 := R_543.step hb_551
  replace W := W.step hb_551
  obtain ⟨rfl, GR_550⟩ := RepV.int R_550
  refine wl_pureK (l' := [(209, .bool (t_548 != j_499)), (28, .int .i64 t_539.2.2), (26, v_540), (25, .int .i64 t_527.2.2), (23, v_528), (22, .int .i64 t_518.2.2), (20, v_519), (19, .int .i64 t_511.2), (18, v_512), (17, .int .i64 t_502.2.2), (15, v_503), (1, v1), (5, pB b_1), (7, v_79), (10, .int .i64 j_499)]) S tys tys_ok 2 [209, 28, 26, 25, 23, 22, 20, 19, 18, 17, 15, 1, 5, 7, 10] (by kernel_rfl) ?_
  clear S; intro a S
  refine wpList_nil ?_
  refine then_n ?_
  refine wp_cond_split (S.eval (show ev _ _ = some (.bool (t_548 != j_499)) from rfl)) ?_ ?_
  ·intro hc
   rw [if_pos hc] at h
   refine wp_seq ?_
   refine wp_region_lit ?_
   refine wl_pureK (l' := [(6, .bool false)]) S tys tys_ok 1 [6] (by kernel_rfl) ?_
   clear S; intro a S
   refine wpList_nil ?_
   refine then_n ?_
   refine wp_ret ?_
   refine then_r ?_
   obtain rfl := Option.some.inj h
   exact b_ret1 S rfl rfl ⟨_, rfl, RepV.mkBool, W.below⟩
  ·intro hc
   rw [if_neg (Bool.eq_false_iff.1 hc)] at h
   refine wp_skip ?_
   refine then_n ?_
   replace S := S.sub (l' := [(28, .int .i64 t_539.2.2), (26, v_540), (25, .int .i64 t_527.2.2), (23, v_528), (22, .int .i64 t_518.2.2), (20, v_519), (19, .int .i64 t_511.2), (18, v_512), (17, .int .i64 t_502.2.2), (15, v_503), (1, v1), (5, pB b_1), (7, v_79), (10, .int .i64 j_499)]) (by exact ⟨rfl, rfl, rfl, rfl, rfl, rfl, rfl, rfl, rfl, rfl, rfl, rfl, rfl, rfl, trivial⟩)
   refine wp_seq ?_
   refine wp_seq ?_
   refine wp_region_lit ?_
   refine wl_pure (l' := [(211, .bool (j_499 != 0)), (210, .int .i64 j_499), (28, .int .i64 t_539.2.2), (26, v_540), (25, .int .i64 t_527.2.2), (23, v_528), (22, .int .i64 t_518.2.2), (20, v_519), (19, .int .i64 t_511.2), (18, v_512), (17, .int .i64 t_502.2.2), (15, v_503), (1, v1), (5, pB b_1), (7, v_79), (10, .int .i64 j_499)]) S tys tys_ok 2 (by kernel_rfl) ?_
   clear S; intro a S
   refine wpList_nil ?_
   refine then_n ?_
   replace S := S.sub (l' := [(211, .bool (j_499 != 0)), (28, .int .i64 t_539.2.2), (26, v_540), (25, .int .i64 t_527.2.2), (23, v_528), (22, .int .i64 t_518.2.2), (20, v_519), (19, .int .i64 t_511.2), (18, v_512), (17, .int .i64 t_502.2.2), (15, v_503), (1, v1), (5, pB b_1), (7, v_79), (10, .int .i64 j_499)]) (by exact ⟨rfl, rfl, rfl, rfl, rfl, rfl, rfl, rfl, rfl, rfl, rfl, rfl, rfl, rfl, rfl, trivial⟩)
   refine wp_cond_split (S.eval (show ev _ _ = some (.bool (j_499 != 0)) from rfl)) ?_ ?_
   ·intro hc
    rw [if_pos hc] at h
    refine wp_seq ?_
    refine wp_region_lit ?_
    refine wl_pureK (l' := [(215, .bool (t_502.2.2 == j_499)), (28, .int .i64 t_539.2.2), (26, v_540), (25, .int .i64 t_527.2.2), (23, v_528), (22, .int .i64 t_518.2.2), (20, v_519), (19, .int .i64 t_511.2), (18, v_512), (15, v_503), (10, .int .i64 j_499)]) S tys tys_ok 4 [215, 28, 26, 25, 23, 22, 20, 19, 18, 15, 10] (by kernel_rfl) ?_
    clear S; intro a S
    obtain ⟨q_553, eq_553, h⟩ := bindS h
    refine seg 4 (fun a_ w_ => w_552 = w_ ∧ St 327 a_ [(219, .bool q_553), (28, .int .i64 t_539.2.2), (26, v_540), (25, .int .i64 t_527.2.2), (23, v_528), (22, .int .i64 t_518.2.2), (20, v_519), (18, v_512), (15, v_503), (10, .int .i64 j_499)]) ?_ ?_
    ·by_cases hc : (t_502.2.2 == j_499) = true
     ·rw [if_pos hc] at eq_553; rw [hc] at S
      refine wl_pureK (l' := [(219, .bool (t_511.2 == j_499)), (28, .int .i64 t_539.2.2), (26, v_540), (25, .int .i64 t_527.2.2), (23, v_528), (22, .int .i64 t_518.2.2), (20, v_519), (18, v_512), (15, v_503), (10, .int .i64 j_499)]) S tys tys_ok 4 [219, 28, 26, 25, 23, 22, 20, 18, 15, 10] (by kernel_rfl) ?_
      clear S; intro a S
      obtain rfl := Option.some.inj eq_553
      exact ⟨rfl, S.sub (by exact ⟨rfl, rfl, rfl, rfl, rfl, rfl, rfl, rfl, rfl, rfl, trivial⟩)⟩
     ·rw [if_neg hc] at eq_553; rw [show (t_502.2.2 == j_499) = false from Bool.eq_false_iff.2 hc] at S
      refine wl_pureK (l' := [(219, .bool false), (28, .int .i64 t_539.2.2), (26, v_540), (25, .int .i64 t_527.2.2), (23, v_528), (22, .int .i64 t_518.2.2), (20, v_519), (18, v_512), (15, v_503), (10, .int .i64 j_499)]) S tys tys_ok 4 [219, 28, 26, 25, 23, 22, 20, 18, 15, 10] (by kernel_rfl) ?_
      clear S; intro a S
      obtain rfl := Option.some.inj eq_553
      exact ⟨rfl, S.sub (by exact ⟨rfl, rfl, rfl, rfl, rfl, rfl, rfl, rfl, rfl, rfl, trivial⟩)⟩
    clear S eq_553; rintro a _ ⟨rfl, S⟩
    refine wl_pure (l' := [(220, .bool q_553), (219, .bool q_553), (28, .int .i64 t_539.2.2), (26, v_540), (25, .int .i64 t_527.2.2), (23, v_528), (22, .int .i64 t_518.2.2), (20, v_519), (18, v_512), (15, v_503), (10, .int .i64 j_499)]) S tys tys_ok 1 (by kernel_rfl) ?_
    clear S; intro a S
    obtain ⟨q_554, eq_554, h⟩ := bindS h
    refine seg 4 (fun a_ w_ => w_552 = w_ ∧ St 327 a_ [(224, .bool q_554), (28, .int .i64 t_539.2.2), (26, v_540), (25, .int .i64 t_527.2.2), (23, v_528), (20, v_519), (18, v_512), (15, v_503), (10, .int .i64 j_499)]) ?_ ?_
    ·by_cases hc : q_553 = true
     ·rw [if_pos hc] at eq_554; rw [hc] at S
      refine wl_pureK (l' := [(224, .bool (t_518.2.2 == j_499)), (28, .int .i64 t_539.2.2), (26, v_540), (25, .int .i64 t_527.2.2), (23, v_528), (20, v_519), (18, v_512), (15, v_503), (10, .int .i64 j_499)]) S tys tys_ok 4 [224, 28, 26, 25, 23, 20, 18, 15, 10] (by kernel_rfl) ?_
      clear S; intro a S
      obtain rfl := Option.some.inj eq_554
      exact ⟨rfl, S.sub (by exact ⟨rfl, rfl, rfl, rfl, rfl, rfl, rfl, rfl, rfl, trivial⟩)⟩
     ·rw [if_neg hc] at eq_554; rw [show q_553 = false from Bool.eq_false_iff.2 hc] at S
      refine wl_pureK (l' := [(224, .bool false), (28, .int .i64 t_539.2.2), (26, v_540), (25, .int .i64 t_527.2.2), (23, v_528), (20, v_519), (18, v_512), (15, v_503), (10, .int .i64 j_499)]) S tys tys_ok 4 [224, 28, 26, 25, 23, 20, 18, 15, 10] (by kernel_rfl) ?_
      clear S; intro a S
      obtain rfl := Option.some.inj eq_554
      exact ⟨rfl, S.sub (by exact ⟨rfl, rfl, rfl, rfl, rfl, rfl, rfl, rfl, rfl, trivial⟩)⟩
    clear S eq_554; rintro a _ ⟨rfl, S⟩
    refine wl_pure (l' := [(225, .bool q_554), (224, .bool q_554), (28, .int .i64 t_539.2.2), (26, v_540), (25, .int .i64 t_527.2.2), (23, v_528), (20, v_519), (18, v_512), (15, v_503), (10, .int .i64 j_499)]) S tys tys_ok 1 (by kernel_rfl) ?_
    clear S; intro a S
    obtain ⟨q_555, eq_555, h⟩ := bindS h
    refine seg 4 (fun a_ w_ => w_552 = w_ ∧ St 327 a_ [(229, .bool q_555), (28, .int .i64 t_539.2.2), (26, v_540), (23, v_528), (20, v_519), (18, v_512), (15, v_503), (10, .int .i64 j_499)]) ?_ ?_
    ·by_cases hc : q_554 = true
     ·rw [if_pos hc] at eq_555; rw [hc] at S
      refine wl_pureK (l' := [(229, .bool (t_527.2.2 == j_499)), (28, .int .i64 t_539.2.2), (26, v_540), (23, v_528), (20, v_519), (18, v_512), (15, v_503), (10, .int .i64 j_499)]) S tys tys_ok 4 [229, 28, 26, 23, 20, 18, 15, 10] (by kernel_rfl) ?_
      clear S; intro a S
      obtain rfl := Option.some.inj eq_555
      exact ⟨rfl, S.sub (by exact ⟨rfl, rfl, rfl, rfl, rfl, rfl, rfl, rfl, trivial⟩)⟩
     ·rw [if_neg hc] at eq_555; rw [show q_554 = false from Bool.eq_false_iff.2 hc] at S
      refine wl_pureK (l' := [(229, .bool false), (28, .int .i64 t_539.2.2), (26, v_540), (23, v_528), (20, v_519), (18, v_512), (15, v_503), (10, .int .i64 j_499)]) S tys tys_ok 4 [229, 28, 26, 23, 20, 18, 15, 10] (by kernel_rfl) ?_
      clear S; intro a S
      obtain rfl := Option.some.inj eq_555
      exact ⟨rfl, S.sub (by exact ⟨rfl, rfl, rfl, rfl, rfl, rfl, rfl, rfl, trivial⟩)⟩
    clear S eq_555; rintro a _ ⟨rfl, S⟩
    refine wl_pure (l' := [(230, .bool q_555), (229, .bool q_555), (28, .int .i64 t_539.2.2), (26, v_540), (23, v_528), (20, v_519), (18, v_512), (15, v_503), (10, .int .i64 j_499)]) S tys tys_ok 1 (by kernel_rfl) ?_
    clear S; intro a S
    obtain ⟨q_556, eq_556, h⟩ := bindS h
    refine seg 4 (fun a_ w_ => w_552 = w_ ∧ St 327 a_ [(234, .bool q_556), (26, v_540), (23, v_528), (20, v_519), (18, v_512), (15, v_503)]) ?_ ?_
    ·by_cases hc : q_555 = true
     ·rw [if_pos hc] at eq_556; rw [hc] at S
      refine wl_pureK (l' := [(234, .bool (t_539.2.2 == j_499)), (26, v_540), (23, v_528), (20, v_519), (18, v_512), (15, v_503)]) S tys tys_ok 4 [234, 26, 23, 20, 18, 15] (by kernel_rfl) ?_
      clear S; intro a S
      obtain rfl := Option.some.inj eq_556
      exact ⟨rfl, S.sub (by exact ⟨rfl, rfl, rfl, rfl, rfl, rfl, trivial⟩)⟩
     ·rw [if_neg hc] at eq_556; rw [show q_555 = false from Bool.eq_false_iff.2 hc] at S
      refine wl_pureK (l' := [(234, .bool false), (26, v_540), (23, v_528), (20, v_519), (18, v_512), (15, v_503)]) S tys tys_ok 4 [234, 26, 23, 20, 18, 15] (by kernel_rfl) ?_
      clear S; intro a S
      obtain rfl := Option.some.inj eq_556
      exact ⟨rfl, S.sub (by exact ⟨rfl, rfl, rfl, rfl, rfl, rfl, trivial⟩)⟩
    clear S eq_556; rintro a _ ⟨rfl, S⟩
    refine wl_pure (l' := [(235, .bool q_556), (234, .bool q_556), (26, v_540), (23, v_528), (20, v_519), (18, v_512), (15, v_503)]) S tys tys_ok 1 (by kernel_rfl) ?_
    clear S; intro a S
    obtain ⟨q_557, eq_557, h⟩ := bindS h
    refine seg 16 (fun a_ w_ => w_552 = w_ ∧ St 327 a_ [(251, .bool q_557)]) ?_ ?_
    ·by_cases hc : q_556 = true
     ·rw [if_pos hc] at eq_557; rw [hc] at S
      refine wl_pure (l' := [(236, v_503), (235, .bool true), (234, .bool true), (26, v_540), (23, v_528), (20, v_519), (18, v_512), (15, v_503)]) S tys tys_ok 1 (by kernel_rfl) ?_
      clear S; intro a S
      refine w_go S rfl (op_len (K := _) S rfl ty25 rfl rfl rfl R_506 ?_)
      clear S; intro a G_558 S
      refine wl_pureK (l' := [(238, v_512), (237, .int .i64 (lenI t_502.1)), (235, .bool true), (26, v_540), (23, v_528), (20, v_519)]) S tys tys_ok 1 [238, 237, 235, 26, 23, 20] (by kernel_rfl) ?_
      clear S; intro a S
      refine w_go S rfl (op_len (K := _) S rfl ty25 rfl rfl rfl R_514.read ?_)
      clear S; intro a G_559 S
      obtain ⟨x_560, ex_560, eq_557⟩ := bindS eq_557
      refine w_go S rfl (op_arith S .i64 ((lenI t_502.1) + (lenI (⟨t_511.1.xs, t_511.1.cap⟩ : Sl ((Sl (Int)) × Bool × Bool × Bool × Int)))) rfl (.inl rfl) rfl rfl rfl rfl ex_560 ?_)
      clear S; intro a S
      refine wl_pureK (l' := [(241, v_519), (240, .int .i64 x_560), (235, .bool true), (26, v_540), (23, v_528)]) S tys tys_ok 1 [241, 240, 235, 26, 23] (by kernel_rfl) ?_
      clear S; intro a S
      refine w_go S rfl (op_len (K := _) S rfl ty25 rfl rfl rfl R_522.read ?_)
      clear S; intro a G_561 S
      obtain ⟨x_562, ex_562, eq_557⟩ := bindS eq_557
      refine w_go S rfl (op_arith S .i64 (x_560 + (lenI (⟨t_518.1.xs, t_518.1.cap⟩ : Sl ((Sl (Int)) × Bool × Bool × Bool × Int)))) rfl (.inl rfl) rfl rfl rfl rfl ex_562 ?_)
      clear S; intro a S
      refine wl_pureK (l' := [(244, v_528), (243, .int .i64 x_562), (235, .bool true), (26, v_540)]) S tys tys_ok 1 [244, 243, 235, 26] (by kernel_rfl) ?_
      clear S; intro a S
      refine w_go S rfl (op_len (K := _) S rfl ty25 rfl rfl rfl R_531.read ?_)
      clear S; intro a G_563 S
      obtain ⟨x_564, ex_564, eq_557⟩ := bindS eq_557
      refine w_go S rfl (op_arith S .i64 (x_562 + (lenI (⟨t_527.1.xs, t_527.1.cap⟩ : Sl ((Sl (Int)) × Bool × Bool × Bool × Int)))) rfl (.inl rfl) rfl rfl rfl rfl ex_564 ?_)
      clear S; intro a S
      refine wl_pureK (l' := [(247, v_540), (246, .int .i64 x_564), (235, .bool true)]) S tys tys_ok 1 [247, 246, 235] (by kernel_rfl) ?_
      clear S; intro a S
      refine w_go S rfl (op_len (K := _) S rfl ty25 rfl rfl rfl R_543.read ?_)
      clear S; intro a G_565 S
      obtain ⟨x_566, ex_566, eq_557⟩ := bindS eq_557
      refine w_go S rfl (op_arith S .i64 (x_564 + (lenI (⟨t_539.1.xs, t_539.1.cap⟩ : Sl ((Sl (Int)) × Bool × Bool × Bool × Int)))) rfl (.inl rfl) rfl rfl rfl rfl ex_566 ?_)
      clear S; intro a S
      refine wl_pureK (l' := [(251, .bool (x_566 == 0))]) S tys tys_ok 2 [251] (by kernel_rfl) ?_
      clear S; intro a S
      obtain rfl := Option.some.inj eq_557
      exact ⟨rfl, S.sub (by exact ⟨rfl, trivial⟩)⟩
     ·rw [if_neg hc] at eq_557; rw [show q_556 = false from Bool.eq_false_iff.2 hc] at S
      refine wl_pureK (l' := [(251, .bool false)]) S tys tys_ok 16 [251] (by kernel_rfl) ?_
      clear S; intro a S
      obtain rfl := Option.some.inj eq_557
      exact ⟨rfl, S.sub (by exact ⟨rfl, trivial⟩)⟩
    clear S eq_557; rintro a _ ⟨rfl, S⟩
    refine wl_pure (l' := [(252, .bool q_557), (251, .bool q_557)]) S tys tys_ok 1 (by kernel_rfl) ?_
    clear S; intro a S
    obtain ⟨q_567, eq_567, h⟩ := bindS h
    refine seg 2 (fun a_ w_ => St 327 a_ [(254, .bool q_567)] ∧ Wd w w_ [v_540.ownBlock, v_528.ownBlock, v_519.ownBlock, v_512.ownBlock, some b_1] ∧ Bx (.arr 2 (.int .i64)) 44 w_ (Kx K w.heap.size [v_540.ownBlock, v_528.ownBlock, v_519.ownBlock, v_512.ownBlock, some b_1]) b_1 x2) ?_ ?_
    ·by_cases hc : q_557 = true
     ·rw [if_pos hc] at eq_567; rw [hc] at S
      obtain ⟨t_568, et_568, eq_567⟩ := bindS eq_567
      refine w_go S rfl (op_call (vs := []) S rfl cb8 rfl rfl rfl (c8 (Kx K w.heap.size [v_540.ownBlock, v_528.ownBlock, v_519.ownBlock, v_512.ownBlock, some b_1]) n w_552  et_568) ?_)
      rintro _ w_572 ⟨v_569, rfl, R_570, hb_571⟩; refine ⟨_, rfl, ?_⟩
      replace R_570 := RepV.back R_570 W
      clear S; intro a S
      replace B_2 := B_2.step hb_571
      replace W := W.step hb_571
      obtain rfl := RepV.bool R_570
      refine wl_pureK (l' := [(254, .bool t_568)]) S tys tys_ok 1 [254] (by kernel_rfl) ?_
      clear S; intro a S
      obtain rfl := Option.some.inj eq_567
      exact ⟨S.sub (by exact ⟨rfl, trivial⟩), W, B_2⟩
     ·rw [if_neg hc] at eq_567; rw [show q_557 = false from Bool.eq_false_iff.2 hc] at S
      refine wl_pureK (l' := [(254, .bool false)]) S tys tys_ok 2 [254] (by kernel_rfl) ?_
      clear S; intro a S
      obtain rfl := Option.some.inj eq_567
      exact ⟨S.sub (by exact ⟨rfl, trivial⟩), W, B_2⟩
    clear S W eq_567; rintro a w_573 ⟨S, W, B_2⟩
    refine wl_pure (l' := [(6, .bool q_567), (254, .bool q_567)]) S tys tys_ok 1 (by kernel_rfl) ?_
    clear S; intro a S
    refine wpList_nil ?_
    refine then_n ?_
    replace S := S.sub (l' := [(6, .bool q_567)]) (by exact ⟨rfl, trivial⟩)
    refine wp_ret ?_
    refine then_r ?_
    obtain rfl := Option.some.inj h
    exact b_ret1 S rfl rfl ⟨_, rfl, RepV.mkBool, W.below⟩
   ·intro hc
    rw [if_neg (Bool.eq_false_iff.1 hc)] at h
    refine wp_skip ?_
    refine then_n ?_
    replace S := S.sub (l' := [(28, .int .i64 t_539.2.2), (25, .int .i64 t_527.2.2), (22, .int .i64 t_518.2.2), (19, .int .i64 t_511.2), (17, .int .i64 t_502.2.2), (1, v1), (5, pB b_1), (7, v_79)]) (by exact ⟨rfl, rfl, rfl, rfl, rfl, rfl, rfl, rfl, trivial⟩)
    refine wp_seq ?_
    refine wp_region_lit ?_
    refine wl_pure (l' := [(256, v1), (255, v_79), (28, .int .i64 t_539.2.2), (25, .int .i64 t_527.2.2), (22, .int .i64 t_518.2.2), (19, .int .i64 t_511.2), (17, .int .i64 t_502.2.2), (1, v1), (5, pB b_1), (7, v_79)]) S tys tys_ok 2 (by kernel_rfl) ?_
    clear S; intro a S
    obtain ⟨t_574, et_574, h⟩ := bindS h
    refine w_go S rfl (op_call (vs := [v_79, v1]) S rfl cb10 rfl rfl rfl (c10 (Kx K w.heap.size [v_540.ownBlock, v_528.ownBlock, v_519.ownBlock, v_512.ownBlock, some b_1]) n w_552 y_78.1 _ R_80 x1 _ R1 et_574) ?_)
    rintro _ w_578 ⟨v_575, rfl, R_576, hb_577⟩; refine ⟨_, rfl, ?_⟩
    replace R_576 := RepV.back R_576 W
    clear S; intro a S
    replace R1 := R1.step hb_577
    replace R_80 := R_80.step hb_577
    replace B_2 := B_2.step hb_577
    replace W := W.step hb_577
    obtain ⟨rfl, GR_576⟩ := RepV.int R_576
    refine wl_pureK (l' := [(29, .bool (decide (t_574 ≥ 0))), (28, .int .i64 t_539.2.2), (25, .int .i64 t_527.2.2), (22, .int .i64 t_518.2.2), (19, .int .i64 t_511.2), (17, .int .i64 t_502.2.2), (1, v1), (5, pB b_1)]) S tys tys_ok 2 [29, 28, 25, 22, 19, 17, 1, 5] (by kernel_rfl) ?_
    clear S; intro a S
    refine wpList_nil ?_
    refine then_n ?_
    refine wp_seq ?_
    refine wp_seq ?_
    refine wp_region_lit ?_
    refine wl_pure (l' := [(259, v1), (29, .bool (decide (t_574 ≥ 0))), (28, .int .i64 t_539.2.2), (25, .int .i64 t_527.2.2), (22, .int .i64 t_518.2.2), (19, .int .i64 t_511.2), (17, .int .i64 t_502.2.2), (1, v1), (5, pB b_1)]) S tys tys_ok 1 (by kernel_rfl) ?_
    clear S; intro a S
    refine w_go S rfl (op_len (K := _) S rfl ty35 rfl rfl rfl R1 ?_)
    clear S; intro a G_579 S
    refine wl_pureK (l' := [(262, .bool ((lenI x1) == 0)), (29, .bool (decide (t_574 ≥ 0))), (28, .int .i64 t_539.2.2), (25, .int .i64 t_527.2.2), (22, .int .i64 t_518.2.2), (19, .int .i64 t_511.2), (17, .int .i64 t_502.2.2), (1, v1), (5, pB b_1)]) S tys tys_ok 2 [262, 29, 28, 25, 22, 19, 17, 1, 5] (by kernel_rfl) ?_
    clear S; intro a S
    obtain ⟨q_580, eq_580, h⟩ := bindS h
    refine seg 4 (fun a_ w_ => St 327 a_ [(266, .bool q_580), (29, .bool (decide (t_574 ≥ 0))), (28, .int .i64 t_539.2.2), (25, .int .i64 t_527.2.2), (22, .int .i64 t_518.2.2), (19, .int .i64 t_511.2), (17, .int .i64 t_502.2.2), (5, pB b_1)] ∧ Wd w w_ [v_540.ownBlock, v_528.ownBlock, v_519.ownBlock, v_512.ownBlock, some b_1] ∧ Bx (.arr 2 (.int .i64)) 44 w_ (Kx K w.heap.size [v_540.ownBlock, v_528.ownBlock, v_519.ownBlock, v_512.ownBlock, some b_1]) b_1 x2) ?_ ?_
    ·by_cases hc : ((lenI x1) == 0) = false
     ·rw [if_pos hc] at eq_580; rw [hc] at S
      refine wl_pure (l' := [(263, v1), (262, .bool false), (29, .bool (decide (t_574 ≥ 0))), (28, .int .i64 t_539.2.2), (25, .int .i64 t_527.2.2), (22, .int .i64 t_518.2.2), (19, .int .i64 t_511.2), (17, .int .i64 t_502.2.2), (1, v1), (5, pB b_1)]) S tys tys_ok 1 (by kernel_rfl) ?_
      clear S; intro a S
      obtain ⟨t_581, et_581, eq_580⟩ := bindS eq_580
      refine w_go S rfl (op_call (vs := [v1]) S rfl cb13 rfl rfl rfl (c13 (Kx K w.heap.size [v_540.ownBlock, v_528.ownBlock, v_519.ownBlock, v_512.ownBlock, some b_1]) n w_578 x1 _ R1 et_581) ?_)
      rintro _ w_585 ⟨v_582, rfl, R_583, hb_584⟩; refine ⟨_, rfl, ?_⟩
      replace R_583 := RepV.back R_583 W
      clear S; intro a S
      replace R1 := R1.step hb_584
      replace B_2 := B_2.step hb_584
      replace W := W.step hb_584
      obtain ⟨rfl, GR_583⟩ := RepV.int R_583
      refine wl_pureK (l' := [(266, .bool (t_581 != 0)), (29, .bool (decide (t_574 ≥ 0))), (28, .int .i64 t_539.2.2), (25, .int .i64 t_527.2.2), (22, .int .i64 t_518.2.2), (19, .int .i64 t_511.2), (17, .int .i64 t_502.2.2), (5, pB b_1)]) S tys tys_ok 2 [266, 29, 28, 25, 22, 19, 17, 5] (by kernel_rfl) ?_
      clear S; intro a S
      obtain rfl := Option.some.inj eq_580
      exact ⟨S.sub (by exact ⟨rfl, rfl, rfl, rfl, rfl, rfl, rfl, rfl, trivial⟩), W, B_2⟩
     ·rw [if_neg hc] at eq_580; rw [show ((lenI x1) == 0) = true from (by simpa using hc)] at S
      refine wl_pureK (l' := [(266, .bool true), (29, .bool (decide (t_574 ≥ 0))), (28, .int .i64 t_539.2.2), (25, .int .i64 t_527.2.2), (22, .int .i64 t_518.2.2), (19, .int .i64 t_511.2), (17, .int .i64 t_502.2.2), (5, pB b_1)]) S tys tys_ok 4 [266, 29, 28, 25, 22, 19, 17, 5] (by kernel_rfl) ?_
      clear S; intro a S
      obtain rfl := Option.some.inj eq_580
      exact ⟨S.sub (by exact ⟨rfl, rfl, rfl, rfl, rfl, rfl, rfl, rfl, trivial⟩), W, B_2⟩
    clear S W eq_580; rintro a w_586 ⟨S, W, B_2⟩
    refine wpList_nil ?_
    refine then_n ?_
    refine wp_cond_split (S.eval (show ev _ _ = some (.bool q_580) from rfl)) ?_ ?_
    ·intro hc
     rw [if_pos hc] at h
     refine wp_seq ?_
     refine wp_region_lit ?_
     refine wl_pureK (l' := [(269, .bool (t_502.2.2 == 1)), (25, .int .i64 t_527.2.2), (22, .int .i64 t_518.2.2), (19, .int .i64 t_511.2)]) S tys tys_ok 3 [269, 25, 22, 19] (by kernel_rfl) ?_
     clear S; intro a S
     obtain ⟨q_587, eq_587, h⟩ := bindS h
     refine seg 3 (fun a_ w_ => w_586 = w_ ∧ St 327 a_ [(272, .bool q_587), (25, .int .i64 t_527.2.2), (22, .int .i64 t_518.2.2)]) ?_ ?_
     ·by_cases hc : (t_502.2.2 == 1) = true
      ·rw [if_pos hc] at eq_587; rw [hc] at S
       refine wl_pureK (l' := [(272, .bool (t_511.2 == 7)), (25, .int .i64 t_527.2.2), (22, .int .i64 t_518.2.2)]) S tys tys_ok 3 [272, 25, 22] (by kernel_rfl) ?_
       clear S; intro a S
       obtain rfl := Option.some.inj eq_587
       exact ⟨rfl, S.sub (by exact ⟨rfl, rfl, rfl, trivial⟩)⟩
      ·rw [if_neg hc] at eq_587; rw [show (t_502.2.2 == 1) = false from Bool.eq_false_iff.2 hc] at S
       refine wl_pureK (l' := [(272, .bool false), (25, .int .i64 t_527.2.2), (22, .int .i64 t_518.2.2)]) S tys tys_ok 3 [272, 25, 22] (by kernel_rfl) ?_
       clear S; intro a S
       obtain rfl := Option.some.inj eq_587
       exact ⟨rfl, S.sub (by exact ⟨rfl, rfl, rfl, trivial⟩)⟩
     clear S eq_587; rintro a _ ⟨rfl, S⟩
     refine wl_pure (l' := [(273, .bool q_587), (272, .bool q_587), (25, .int .i64 t_527.2.2), (22, .int .i64 t_518.2.2)]) S tys tys_ok 1 (by kernel_rfl) ?_
     clear S; intro a S
     obtain ⟨q_588, eq_588, h⟩ := bindS h
     refine seg 3 (fun a_ w_ => w_586 = w_ ∧ St 327 a_ [(276, .bool q_588), (25, .int .i64 t_527.2.2)]) ?_ ?_
     ·by_cases hc : q_587 = true
      ·rw [if_pos hc] at eq_588; rw [hc] at S
       refine wl_pureK (l' := [(276, .bool (t_518.2.2 == 7)), (25, .int .i64 t_527.2.2)]) S tys tys_ok 3 [276, 25] (by kernel_rfl) ?_
       clear S; intro a S
       obtain rfl := Option.some.inj eq_588
       exact ⟨rfl, S.sub (by exact ⟨rfl, rfl, trivial⟩)⟩
      ·rw [if_neg hc] at eq_588; rw [show q_587 = false from Bool.eq_false_iff.2 hc] at S
       refine wl_pureK (l' := [(276, .bool false), (25, .int .i64 t_527.2.2)]) S tys tys_ok 3 [276, 25] (by kernel_rfl) ?_
       clear S; intro a S
       obtain rfl := Option.some.inj eq_588
       exact ⟨rfl, S.sub (by exact ⟨rfl, rfl, trivial⟩)⟩
     clear S eq_588; rintro a _ ⟨rfl, S⟩
     refine wl_pure (l' := [(277, .bool q_588), (276, .bool q_588), (25, .int .i64 t_527.2.2)]) S tys tys_ok 1 (by kernel_rfl) ?_
     clear S; intro a S
     obtain ⟨q_589, eq_589, h⟩ := bindS h
     refine seg 3 (fun a_ w_ => w_586 = w_ ∧ St 327 a_ [(280, .bool q_589)]) ?_ ?_
     ·by_cases hc : q_588 = true
      ·rw [if_pos hc] at eq_589; rw [hc] at S
       refine wl_pureK (l' := [(280, .bool (t_527.2.2 == 7))]) S tys tys_ok 3 [280] (by kernel_rfl) ?_
       clear S; intro a S
       obtain rfl := Option.some.inj eq_589
       exact ⟨rfl, S.sub (by exact ⟨rfl, trivial⟩)⟩
      ·rw [if_neg hc] at eq_589; rw [show q_588 = false from Bool.eq_false_iff.2 hc] at S
       refine wl_pureK (l' := [(280, .bool false)]) S tys tys_ok 3 [280] (by kernel_rfl) ?_
       clear S; intro a S
       obtain rfl := Option.some.inj eq_589
       exact ⟨rfl, S.sub (by exact ⟨rfl, trivial⟩)⟩
     clear S eq_589; rintro a _ ⟨rfl, S⟩
     refine wl_pure (l' := [(281, .bool q_589), (280, .bool q_589)]) S tys tys_ok 1 (by kernel_rfl) ?_
     clear S; intro a S
     obtain ⟨q_590, eq_590, h⟩ := bindS h
     refine seg 2 (fun a_ w_ => St 327 a_ [(283, .bool q_590)] ∧ Wd w w_ [v_540.ownBlock, v_528.ownBlock, v_519.ownBlock, v_512.ownBlock, some b_1] ∧ Bx (.arr 2 (.int .i64)) 44 w_ (Kx K w.heap.size [v_540.ownBlock, v_528.ownBlock, v_519.ownBlock, v_512.ownBlock, some b_1]) b_1 x2) ?_ ?_
     ·by_cases hc : q_589 = true
      ·rw [if_pos hc] at eq_590; rw [hc] at S
       obtain ⟨t_591, et_591, eq_590⟩ := bindS eq_590
       refine w_go S rfl (op_call (vs := []) S rfl cb8 rfl rfl rfl (c8 (Kx K w.heap.size [v_540.ownBlock, v_528.ownBlock, v_519.ownBlock, v_512.ownBlock, some b_1]) n w_586  et_591) ?_)
       rintro _ w_595 ⟨v_592, rfl, R_593, hb_594⟩; refine ⟨_, rfl, ?_⟩
       replace R_593 := RepV.back R_593 W
       clear S; intro a S
       replace B_2 := B_2.step hb_594
       replace W := W.step hb_594
       obtain rfl := RepV.bool R_593
       refine wl_pureK (l' := [(283, .bool t_591)]) S tys tys_ok 1 [283] (by kernel_rfl) ?_
       clear S; intro a S
       obtain rfl := Option.some.inj eq_590
       exact ⟨S.sub (by exact ⟨rfl, trivial⟩), W, B_2⟩
      ·rw [if_neg hc] at eq_590; rw [show q_589 = false from Bool.eq_false_iff.2 hc] at S
       refine wl_pureK (l' := [(283, .bool false)]) S tys tys_ok 2 [283] (by kernel_rfl) ?_
       clear S; intro a S
       obtain rfl := Option.some.inj eq_590
       exact ⟨S.sub (by exact ⟨rfl, trivial⟩), W, B_2⟩
     clear S W eq_590; rintro a w_596 ⟨S, W, B_2⟩
     refine wl_pure (l' := [(6, .bool q_590), (283, .bool q_590)]) S tys tys_ok 1 (by kernel_rfl) ?_
     clear S; intro a S
     refine wpList_nil ?_
     refine then_n ?_
     replace S := S.sub (l' := [(6, .bool q_590)]) (by exact ⟨rfl, trivial⟩)
     refine wp_ret ?_
     refine then_r ?_
     obtain rfl := Option.some.inj h
     exact b_ret1 S rfl rfl ⟨_, rfl, RepV.mkBool, W.below⟩
    ·intro hc
     rw [if_neg (Bool.eq_false_iff.1 hc)] at h
     refine wp_skip ?_
     refine then_n ?_
     replace S := S.sub (l' := [(29, .bool (decide (t_574 ≥ 0))), (28, .int .i64 t_539.2.2), (25, .int .i64 t_527.2.2), (22, .int .i64 t_518.2.2), (19, .int .i64 t_511.2), (17, .int .i64 t_502.2.2), (5, pB b_1)]) (by exact ⟨rfl, rfl, rfl, rfl, rfl, rfl, rfl, trivial⟩)
     refine wp_seq ?_
     refine wp_seq ?_
     refine wp_region_lit ?_
     refine wl_pureK (l' := [(288, .bool (!((decide (t_574 ≥ 0)) == (t_502.2.2 == 8)))), (29, .bool (decide (t_574 ≥ 0))), (28, .int .i64 t_539.2.2), (25, .int .i64 t_527.2.2), (22, .int .i64 t_518.2.2), (19, .int .i64 t_511.2), (17, .int .i64 t_502.2.2), (5, pB b_1)]) S tys tys_ok 5 [288, 29, 28, 25, 22, 19, 17, 5] (by kernel_rfl) ?_
     clear S; intro a S
     obtain ⟨q_597, eq_597, h⟩ := bindS h
     refine seg 5 (fun a_ w_ => w_586 = w_ ∧ St 327 a_ [(293, .bool q_597), (29, .bool (decide (t_574 ≥ 0))), (28, .int .i64 t_539.2.2), (25, .int .i64 t_527.2.2), (22, .int .i64 t_518.2.2), (17, .int .i64 t_502.2.2), (5, pB b_1)]) ?_ ?_
     ·by_cases hc : (!((decide (t_574 ≥ 0)) == (t_502.2.2 == 8))) = false
      ·rw [if_pos hc] at eq_597; rw [hc] at S
       refine wl_pureK (l' := [(293, .bool (!((decide (t_574 ≥ 0)) == (t_511.2 == 0)))), (29, .bool (decide (t_574 ≥ 0))), (28, .int .i64 t_539.2.2), (25, .int .i64 t_527.2.2), (22, .int .i64 t_518.2.2), (17, .int .i64 t_502.2.2), (5, pB b_1)]) S tys tys_ok 5 [293, 29, 28, 25, 22, 17, 5] (by kernel_rfl) ?_
       clear S; intro a S
       obtain rfl := Option.some.inj eq_597
       exact ⟨rfl, S.sub (by exact ⟨rfl, rfl, rfl, rfl, rfl, rfl, rfl, trivial⟩)⟩
      ·rw [if_neg hc] at eq_597; rw [show (!((decide (t_574 ≥ 0)) == (t_502.2.2 == 8))) = true from (by simpa using hc)] at S
       refine wl_pureK (l' := [(293, .bool true), (29, .bool (decide (t_574 ≥ 0))), (28, .int .i64 t_539.2.2), (25, .int .i64 t_527.2.2), (22, .int .i64 t_518.2.2), (17, .int .i64 t_502.2.2), (5, pB b_1)]) S tys tys_ok 5 [293, 29, 28, 25, 22, 17, 5] (by kernel_rfl) ?_
       clear S; intro a S
       obtain rfl := Option.some.inj eq_597
       exact ⟨rfl, S.sub (by exact ⟨rfl, rfl, rfl, rfl, rfl, rfl, rfl, trivial⟩)⟩
     clear S eq_597; rintro a _ ⟨rfl, S⟩
     refine wl_pure (l' := [(294, .bool q_597), (293, .bool q_597), (29, .bool (decide (t_574 ≥ 0))), (28, .int .i64 t_539.2.2), (25, .int .i64 t_527.2.2), (22, .int .i64 t_518.2.2), (17, .int .i64 t_502.2.2), (5, pB b_1)]) S tys tys_ok 1 (by kernel_rfl) ?_
     clear S; intro a S
     obtain ⟨q_598, eq_598, h⟩ := bindS h
     refine seg 5 (fun a_ w_ => w_586 = w_ ∧ St 327 a_ [(299, .bool q_598), (29, .bool (decide (t_574 ≥ 0))), (28, .int .i64 t_539.2.2), (25, .int .i64 t_527.2.2), (17, .int .i64 t_502.2.2), (5, pB b_1)]) ?_ ?_
     ·by_cases hc : q_597 = false
      ·rw [if_pos hc] at eq_598; rw [hc] at S
       refine wl_pureK (l' := [(299, .bool (!((decide (t_574 ≥ 0)) == (t_518.2.2 == 0)))), (29, .bool (decide (t_574 ≥ 0))), (28, .int .i64 t_539.2.2), (25, .int .i64 t_527.2.2), (17, .int .i64 t_502.2.2), (5, pB b_1)]) S tys tys_ok 5 [299, 29, 28, 25, 17, 5] (by kernel_rfl) ?_
       clear S; intro a S
       obtain rfl := Option.some.inj eq_598
       exact ⟨rfl, S.sub (by exact ⟨rfl, rfl, rfl, rfl, rfl, rfl, trivial⟩)⟩
      ·rw [if_neg hc] at eq_598; rw [show q_597 = true from (by simpa using hc)] at S
       refine wl_pureK (l' := [(299, .bool true), (29, .bool (decide (t_574 ≥ 0))), (28, .int .i64 t_539.2.2), (25, .int .i64 t_527.2.2), (17, .int .i64 t_502.2.2), (5, pB b_1)]) S tys tys_ok 5 [299, 29, 28, 25, 17, 5] (by kernel_rfl) ?_
       clear S; intro a S
       obtain rfl := Option.some.inj eq_598
       exact ⟨rfl, S.sub (by exact ⟨rfl, rfl, rfl, rfl, rfl, rfl, trivial⟩)⟩
     clear S eq_598; rintro a _ ⟨rfl, S⟩
     refine wl_pure (l' := [(300, .bool q_598), (299, .bool q_598), (29, .bool (decide (t_574 ≥ 0))), (28, .int .i64 t_539.2.2), (25, .int .i64 t_527.2.2), (17, .int .i64 t_502.2.2), (5, pB b_1)]) S tys tys_ok 1 (by kernel_rfl) ?_
     clear S; intro a S
     obtain ⟨q_599, eq_599, h⟩ := bindS h
     refine seg 5 (fun a_ w_ => w_586 = w_ ∧ St 327 a_ [(305, .bool q_599), (28, .int .i64 t_539.2.2), (17, .int .i64 t_502.2.2), (5, pB b_1)]) ?_ ?_
     ·by_cases hc : q_598 = false
      ·rw [if_pos hc] at eq_599; rw [hc] at S
       refine wl_pureK (l' := [(305, .bool ((decide (t_574 ≥ 0)) == (t_527.2.2 == 7))), (28, .int .i64 t_539.2.2), (17, .int .i64 t_502.2.2), (5, pB b_1)]) S tys tys_ok 5 [305, 28, 17, 5] (by kernel_rfl) ?_
       clear S; intro a S
       obtain rfl := Option.some.inj eq_599
       exact ⟨rfl, S.sub (by exact ⟨rfl, rfl, rfl, rfl, trivial⟩)⟩
      ·rw [if_neg hc] at eq_599; rw [show q_598 = true from (by simpa using hc)] at S
       refine wl_pureK (l' := [(305, .bool true), (28, .int .i64 t_539.2.2), (17, .int .i64 t_502.2.2), (5, pB b_1)]) S tys tys_ok 5 [305, 28, 17, 5] (by kernel_rfl) ?_
       clear S; intro a S
       obtain rfl := Option.some.inj eq_599
       exact ⟨rfl, S.sub (by exact ⟨rfl, rfl, rfl, rfl, trivial⟩)⟩
     clear S eq_599; rintro a _ ⟨rfl, S⟩
     refine wl_pure (l' := [(306, .bool q_599), (305, .bool q_599), (28, .int .i64 t_539.2.2), (17, .int .i64 t_502.2.2), (5, pB b_1)]) S tys tys_ok 1 (by kernel_rfl) ?_
     clear S; intro a S
     obtain ⟨q_600, eq_600, h⟩ := bindS h
     refine seg 3 (fun a_ w_ => w_586 = w_ ∧ St 327 a_ [(309, .bool q_600), (28, .int .i64 t_539.2.2), (5, pB b_1)]) ?_ ?_
     ·by_cases hc : q_599 = false
      ·rw [if_pos hc] at eq_600; rw [hc] at S
       refine wl_pureK (l' := [(309, .bool (t_502.2.2 == 1)), (28, .int .i64 t_539.2.2), (5, pB b_1)]) S tys tys_ok 3 [309, 28, 5] (by kernel_rfl) ?_
       clear S; intro a S
       obtain rfl := Option.some.inj eq_600
       exact ⟨rfl, S.sub (by exact ⟨rfl, rfl, rfl, trivial⟩)⟩
      ·rw [if_neg hc] at eq_600; rw [show q_599 = true from (by simpa using hc)] at S
       refine wl_pureK (l' := [(309, .bool true), (28, .int .i64 t_539.2.2), (5, pB b_1)]) S tys tys_ok 3 [309, 28, 5] (by kernel_rfl) ?_
       clear S; intro a S
       obtain rfl := Option.some.inj eq_600
       exact ⟨rfl, S.sub (by exact ⟨rfl, rfl, rfl, trivial⟩)⟩
     clear S eq_600; rintro a _ ⟨rfl, S⟩
     refine wpList_nil ?_
     refine then_n ?_
     refine wp_cond_split (S.eval (show ev _ _ = some (.bool q_600) from rfl)) ?_ ?_
     ·intro hc
      rw [if_pos hc] at h
      refine wp_seq ?_
      refine wp_region_lit ?_
      refine wl_pureK (l' := [(6, .bool false)]) S tys tys_ok 1 [6] (by kernel_rfl) ?_
      clear S; intro a S
      refine wpList_nil ?_
      refine then_n ?_
      refine wp_ret ?_
      refine then_r ?_
      obtain rfl := Option.some.inj h
      exact b_ret1 S rfl rfl ⟨_, rfl, RepV.mkBool, W.below⟩
     ·intro hc
      rw [if_neg (Bool.eq_false_iff.1 hc)] at h
      refine wp_skip ?_
      refine then_n ?_
      replace S := S.sub (l' := [(28, .int .i64 t_539.2.2), (5, pB b_1)]) (by exact ⟨rfl, rfl, trivial⟩)
      refine wp_seq ?_
      refine wp_region_lit ?_
      obtain ⟨y_601, ey_601, h⟩ := bindS h
      refine w_go S rfl (op_indexAddr_arr S rfl ty44 rfl rfl rfl B_2.at_ rfl ey_601 ?_)
      clear S; intro a S
      refine w_go S rfl (op_load (t := (.int .i64)) (x := y_601) S rfl ty3 rfl rfl rfl (RepAt.ix B_2.at_ ey_601) ?_)
      clear S; intro a v_602 R_603 S
      obtain ⟨rfl, GR_603⟩ := RepV.int R_603
      refine wl_pureK (l' := [(316, .bool ((decide (y_601 < 1)) == (t_539.2.2 == 1))), (28, .int .i64 t_539.2.2)]) S tys tys_ok 5 [316, 28] (by kernel_rfl) ?_
      clear S; intro a S
      obtain ⟨q_604, eq_604, h⟩ := bindS h
      refine seg 7 (fun a_ w_ => w_586 = w_ ∧ St 327 a_ [(323, .bool q_604)]) ?_ ?_
      ·by_cases hc : ((decide (y_601 < 1)) == (t_539.2.2 == 1)) = true
       ·rw [if_pos hc] at eq_604; rw [hc] at S
        refine wl_pure (l' := [(319, .bool (t_539.2.2 == 0)), (318, .bool (t_539.2.2 == 0)), (317, .int .i64 t_539.2.2), (316, .bool true), (28, .int .i64 t_539.2.2)]) S tys tys_ok 3 (by kernel_rfl) ?_
        clear S; intro a S
        obtain ⟨q_605, eq_605, eq_604⟩ := bindS eq_604
        refine seg 3 (fun a_ w_ => w_586 = w_ ∧ St 327 a_ [(322, .bool q_605), (316, .bool true)]) ?_ ?_
        ·by_cases hc : (t_539.2.2 == 0) = false
         ·rw [if_pos hc] at eq_605; rw [hc] at S
          refine wl_pureK (l' := [(322, .bool (t_539.2.2 == 1)), (316, .bool true)]) S tys tys_ok 3 [322, 316] (by kernel_rfl) ?_
          clear S; intro a S
          obtain rfl := Option.some.inj eq_605
          exact ⟨rfl, S.sub (by exact ⟨rfl, rfl, trivial⟩)⟩
         ·rw [if_neg hc] at eq_605; rw [show (t_539.2.2 == 0) = true from (by simpa using hc)] at S
          refine wl_pureK (l' := [(322, .bool true), (316, .bool true)]) S tys tys_ok 3 [322, 316] (by kernel_rfl) ?_
          clear S; intro a S
          obtain rfl := Option.some.inj eq_605
          exact ⟨rfl, S.sub (by exact ⟨rfl, rfl, trivial⟩)⟩
        clear S eq_605; rintro a _ ⟨rfl, S⟩
        refine wl_pure (l' := [(323, .bool q_605), (322, .bool q_605), (316, .bool true)]) S tys tys_ok 1 (by kernel_rfl) ?_
        clear S; intro a S
        obtain rfl := Option.some.inj eq_604
        exact ⟨rfl, S.sub (by exact ⟨rfl, trivial⟩)⟩
       ·rw [if_neg hc] at eq_604; rw [show ((decide (y_601 < 1)) == (t_539.2.2 == 1)) = false from Bool.eq_false_iff.2 hc] at S
        refine wl_pureK (l' := [(323, .bool false)]) S tys tys_ok 7 [323] (by kernel_rfl) ?_
        clear S; intro a S
        obtain rfl := Option.some.inj eq_604
        exact ⟨rfl, S.sub (by exact ⟨rfl, trivial⟩)⟩
      clear S eq_604; rintro a _ ⟨rfl, S⟩
      refine wl_pure (l' := [(324, .bool q_604), (323, .bool q_604)]) S tys tys_ok 1 (by kernel_rfl) ?_
      clear S; intro a S
      obtain ⟨q_606, eq_606, h⟩ := bindS h
      refine seg 2 (fun a_ w_ => St 327 a_ [(326, .bool q_606)] ∧ Wd w w_ [v_540.ownBlock, v_528.ownBlock, v_519.ownBlock, v_512.ownBlock, some b_1] ∧ Bx (.arr 2 (.int .i64)) 44 w_ (Kx K w.heap.size [v_540.ownBlock, v_528.ownBlock, v_519.ownBlock, v_512.ownBlock, some b_1]) b_1 x2) ?_ ?_
      ·by_cases hc : q_604 = true
       ·rw [if_pos hc] at eq_606; rw [hc] at S
        obtain ⟨t_607, et_607, eq_606⟩ := bindS eq_606
        refine w_go S rfl (op_call (vs := []) S rfl cb8 rfl rfl rfl (c8 (Kx K w.heap.size [v_540.ownBlock, v_528.ownBlock, v_519.ownBlock, v_512.ownBlock, some b_1]) n w_586  et_607) ?_)
        rintro _ w_611 ⟨v_608, rfl, R_609, hb_610⟩; refine ⟨_, rfl, ?_⟩
        replace R_609 := RepV.back R_609 W
        clear S; intro a S
        replace B_2 := B_2.step hb_610
        replace W := W.step hb_610
        obtain rfl := RepV.bool R_609
        refine wl_pureK (l' := [(326, .bool t_607)]) S tys tys_ok 1 [326] (by kernel_rfl) ?_
        clear S; intro a S
        obtain rfl := Option.some.inj eq_606
        exact ⟨S.sub (by exact ⟨rfl, trivial⟩), W, B_2⟩
       ·rw [if_neg hc] at eq_606; rw [show q_604 = false from Bool.eq_false_iff.2 hc] at S
        refine wl_pureK (l' := [(326, .bool false)]) S tys tys_ok 2 [326] (by kernel_rfl) ?_
        clear S; intro a S
        obtain rfl := Option.some.inj eq_606
        exact ⟨S.sub (by exact ⟨rfl, trivial⟩), W, B_2⟩
      clear S W eq_606; rintro a w_612 ⟨S, W, B_2⟩
      refine wl_pure (l' := [(6, .bool q_606), (326, .bool q_606)]) S tys tys_ok 1 (by kernel_rfl) ?_
      clear S; intro a S
      refine wpList_nil ?_
      refine then_n ?_
      replace S := S.sub (l' := [(6, .bool q_606)]) (by exact ⟨rfl, trivial⟩)
      refine wp_ret ?_
      obtain rfl := Option.some.inj h
      exact b_ret1 S rfl rfl ⟨_, rfl, RepV.mkBool, W.below⟩

end Go.Proofs.Ytflieonbbggmhaa
