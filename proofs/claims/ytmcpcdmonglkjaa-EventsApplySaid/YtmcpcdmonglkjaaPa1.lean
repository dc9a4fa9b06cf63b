/- Functions of the program, as plain data. -/
import Derived.Test.YtmcpcdmonglkjaaP5
set_option linter.unusedVariables false
set_option linter.unusedSimpArgs false
namespace Go.Proofs.Ytmcpcdmonglkjaa
open Go.RowKit

def p16 (n : Nat) (x0 : Sl ((Sl (Int)) × Int × Int)) (x1 : Sl (Int)) : Option (((Sl (Int)) × Int × Int) × (Bool)) :=
 (p38 n x0 x1).bind fun t_5 =>
 if (decide (t_5 < 0)) then (some ((⟨[], some 0⟩, 0, 0), false)) else (idx x0.xs t_5).bind fun y_17 => (p39 n y_17).bind fun t_23 => some (t_23, true)
set_option maxHeartbeats 4000000 in
set_option maxRecDepth 100000 in
/-- plugboard/events.Find -/
theorem c16 (K : Nat → Prop) (n : Nat) (w : World) (x0 : Sl ((Sl (Int)) × Int × Int)) (v0 : Value) (R0 : RepV (.sl gt0) w K v0 x0) (x1 : Sl (Int)) (v1 : Value) (R1 : RepV (.sl (.int .u8)) w K v1 x1) {r : ((Sl (Int)) × Int × Int) × (Bool)} (h : p16 n x0 x1 = some r) :
  Calls Try.prog 16 #[v0, v1] w (Ret2 gt0 .bool w (Kx K w.heap.size []) r) := by
 refine enter (args := [v0, v1]) Try.func16 rfl 18 rfl rfl fun a S => ?_
 have W := Wd.start w
 replace R0 := R0.arg
 replace R1 := R1.arg
 unfold p16 at h
 replace S : St 18 a [(0, v0), (1, v1)] := S
 refine wp_seq ?_
 refine wp_region_lit ?_
 refine w_go S rfl (op_alloc (K := K) (n := w.heap.size) (L := []) (t := gt0) (y := (⟨[], some 0⟩, 0, 0)) S rfl rfl rfl _ z33 (fun w K => ⟨[.slice .none 0 0], [.int .u8 0, .int .u8 0], rfl, ⟨.none, 0, 0, rfl, rfl, Nat.le_refl _, by decide, fun k h => Option.some.inj h, .inl rfl⟩, ⟨[.int .u8 0], [.int .u8 0], rfl, ⟨rfl, by decide⟩, ⟨rfl, by decide⟩⟩⟩) ?_)
 clear S; intro a w_3 b_1 hb_4 B_2 S
 replace R0 := R0.box hb_4
 replace R1 := R1.box hb_4
 replace W := W.box hb_4
 refine wl_pure (l' := [(5, .bool false), (4, pB b_1), (0, v0), (1, v1)]) S tys tys_ok 1 (by kernel_rfl) ?_
 clear S; intro a S
 refine wpList_nil ?_
 refine then_n ?_
 replace S := S.sub (l' := [(4, pB b_1), (0, v0), (1, v1)]) (by exact ⟨rfl, rfl, rfl, trivial⟩)
 refine wp_seq ?_
 refine wp_region_lit ?_
 refine wl_pure (l' := [(8, v1), (7, v0), (4, pB b_1), (0, v0), (1, v1)]) S tys tys_ok 2 (by kernel_rfl) ?_
 clear S; intro a S
 obtain ⟨t_5, et_5, h⟩ := bindS h
 refine w_go S rfl (op_call (vs := [v0, v1]) S rfl cb38 rfl rfl rfl (c38 (Kx K w.heap.size [some b_1]) n w_3 x0 _ R0 x1 _ R1 et_5) ?_)
 rintro _ w_9 ⟨v_6, rfl, R_7, hb_8⟩; refine ⟨_, rfl, ?_⟩
 replace R_7 := RepV.back R_7 W
 clear S; intro a S
 replace R0 := R0.step hb_8
 replace R1 := R1.step hb_8
 replace B_2 := B_2.step hb_8
 replace W := W.step hb_8
 obtain ⟨rfl, GR_7⟩ := RepV.int R_7
 refine wl_pureK (l' := [(6, .int .i64 t_5), (4, pB b_1), (0, v0)]) S tys tys_ok 1 [6, 4, 0] (by kernel_rfl) ?_
 clear S; intro a S
 refine wpList_nil ?_
 refine then_n ?_
 refine wp_seq ?_
 refine wp_seq ?_
 refine wp_region_lit ?_
 refine wl_pure (l' := [(11, .bool (decide (t_5 < 0))), (10, .int .i64 t_5), (6, .int .i64 t_5), (4, pB b_1), (0, v0)]) S tys tys_ok 2 (by kernel_rfl) ?_
 clear S; intro a S
 refine wpList_nil ?_
 refine then_n ?_
 replace S := S.sub (l' := [(11, .bool (decide (t_5 < 0))), (6, .int .i64 t_5), (4, pB b_1), (0, v0)]) (by exact ⟨rfl, rfl, rfl, rfl, trivial⟩)
 refine wp_cond_split (S.eval (show ev _ _ = some (.bool (decide (t_5 < 0))) from rfl)) ?_ ?_
 ·intro hc
  rw [if_pos hc] at h
  refine wp_seq ?_
  refine wp_region_lit ?_
  refine w_go S rfl (op_build (K := (Kx K w.heap.size [some b_1])) (f := gf0) (z0 := (⟨[], some 0⟩, 0, 0)) (x := (⟨[], some 0⟩, 0, 0)) (vs := []) S _ rfl ty33 z33 (fun w K => ⟨[.slice .none 0 0], [.int .u8 0, .int .u8 0], rfl, ⟨.none, 0, 0, rfl, rfl, Nat.le_refl _, by decide, fun k h => Option.some.inj h, .inl rfl⟩, ⟨[.int .u8 0], [.int .u8 0], rfl, ⟨rfl, by decide⟩, ⟨rfl, by decide⟩⟩⟩) rfl rfl rfl [] rfl rfl ?_)
  clear S; intro a v_10 R_11 S
  refine w_go S rfl (op_store (t' := gt0) S rfl rfl ty33 rfl rfl rfl B_2 (by simp) Ln.whole R_11 ?_)
  intro w_12 hw_13 B_
  replace R0 := R0.wrote hw_13 (by simp)
  replace R_11 := R_11.wrote hw_13 (by simp)
  replace W := W.wrote hw_13 (by simp)
  replace B_2 : Bx gt0 33 w_12 (Kx K w.heap.size [some b_1]) b_1 (⟨[], some 0⟩, 0, 0) := B_; clear B_
  refine wl_pureK (l' := [(5, .bool false), (4, pB b_1)]) S tys tys_ok 1 [5, 4] (by kernel_rfl) ?_
  clear S; intro a S
  refine wpList_nil ?_
  refine then_n ?_
  refine wp_ret ?_
  refine then_r ?_
  obtain ⟨v_14, hr_15, R_16⟩ := res_cell (P := Try.prog) (T := 33) (t := gt0) (x := (⟨[], some 0⟩, 0, 0)) S (s := 4) rfl ty33 B_2.at_
  obtain rfl := Option.some.inj h
  exact b_res2 S rfl hr_15 (res_tmp S rfl) ⟨_, _, rfl, R_16.out, RepV.mkBool, W.below⟩
 ·intro hc
  rw [if_neg (Bool.eq_false_iff.1 hc)] at h
  refine wp_skip ?_
  refine then_n ?_
  replace S := S.sub (l' := [(6, .int .i64 t_5), (4, pB b_1), (0, v0)]) (by exact ⟨rfl, rfl, rfl, trivial⟩)
  refine wp_seq ?_
  refine wp_region_lit ?_
  refine wl_pure (l' := [(14, .int .i64 t_5), (13, v0), (6, .int .i64 t_5), (4, pB b_1), (0, v0)]) S tys tys_ok 2 (by kernel_rfl) ?_
  clear S; intro a S
  obtain ⟨y_17, ey_17, h⟩ := bindS h
  refine w_go S rfl (op_indexAddr S rfl ty23 rfl rfl rfl R0 rfl ey_17 ?_)
  clear S; intro a p_18 R_19 H_20 S
  refine w_go S rfl (op_load (t := gt0) (x := y_17) S rfl ty33 rfl rfl rfl R_19 ?_)
  clear S; intro a v_21 R_22 S
  obtain ⟨t_23, et_23, h⟩ := bindS h
  refine w_go S rfl (op_call (vs := [v_21]) S rfl cb39 rfl rfl rfl (c39 (Kx K w.heap.size [some b_1]) n w_9 y_17 _ R_22 et_23) ?_)
  rintro _ w_27 ⟨v_24, rfl, R_25, hb_26⟩; refine ⟨_, rfl, ?_⟩
  replace R_25 := RepV.back R_25 W
  clear S; intro a S
  replace R0 := R0.step hb_26
  replace R_22 := R_22.step hb_26
  replace B_2 := B_2.step hb_26
  replace W := W.step hb_26
  refine w_go S rfl (op_store (t' := gt0) S rfl rfl ty33 rfl rfl rfl B_2 (by simp) Ln.whole R_25 ?_)
  intro w_28 hw_29 B_
  replace R0 := R0.wrote hw_29 (by simp)
  replace R_22 := R_22.wrote hw_29 (by simp)
  replace R_25 := R_25.wrote hw_29 (by simp)
  replace W := W.wrote hw_29 (by simp)
  replace B_2 : Bx gt0 33 w_28 (Kx K w.heap.size [some b_1]) b_1 t_23 := B_; clear B_
  refine wl_pureK (l' := [(5, .bool true), (4, pB b_1)]) S tys tys_ok 1 [5, 4] (by kernel_rfl) ?_
  clear S; intro a S
  refine wpList_nil ?_
  refine then_n ?_
  refine wp_ret ?_
  obtain ⟨v_30, hr_31, R_32⟩ := res_cell (P := Try.prog) (T := 33) (t := gt0) (x := t_23) S (s := 4) rfl ty33 B_2.at_
  obtain rfl := Option.some.inj h
  exact b_res2 S rfl hr_31 (res_tmp S rfl) ⟨_, _, rfl, R_32.out, RepV.mkBool, W.below⟩
theorem cb16 : callB Try.prog 16 = true := by kernel_rfl
def p4_l1 (n : Nat) (t_5 : (Sl ((Sl (Int)) × Int × Int))) : Nat → (Int) → Option ((Unit) ⊕ ((Bool)))
 | 0, _ => .none
 | m + 1, c_62 => if (decide (c_62 < (lenI t_5))) then ((idx t_5.xs c_62).bind fun y_72 => (p16 n t_5 y_72.1).bind fun t_78 => (if (!t_78.2) = false then (idx t_5.xs c_62).bind fun y_95 => (p17 n t_78.1.1 y_95.1).bind fun t_101 => some (!t_101) else some true).bind fun q_91 => (if q_91 = false then (idx t_5.xs c_62).bind fun y_110 => some (t_78.1.2.1 != y_110.2.1) else some true).bind fun q_106 => (if q_106 = false then (idx t_5.xs c_62).bind fun y_120 => some (t_78.1.2.2 != y_120.2.2) else some true).bind fun q_116 => if q_116 then (some (.inr false)) else (ckI .i64 (c_62 + 1)).bind fun x_482 => p4_l1 n t_5 m x_482) else some (.inl ())
def p4 (n : Nat) (x0 : Sl (Int × Int × Int × Int)) (x1 : Int × Int × Int × Int) : Option ((Bool)) :=
 (p12 n x0).bind fun t_5 =>
 (p13 n x1 0).bind fun t_12 =>
 (p14 n t_5 t_12).bind fun t_25 =>
 (p9 n t_5 t_12).bind fun t_34 =>
 (if (t_34.2 != t_25.2) = false then (p15 n t_34.1 (⟨t_25.1.xs, t_25.1.cap⟩ : Sl ((Sl (Int)) × Int × Int))).bind fun t_42 => some (!t_42) else some true).bind fun q_41 =>
 (if q_41 = false then (p10 n t_34.1).bind fun t_49 => some (t_49 != 0) else some true).bind fun q_48 =>
 (if q_48 = false then (p10 n t_5).bind fun t_56 => some (t_56 != 0) else some true).bind fun q_55 =>
 if q_55 then (some false) else (p4_l1 n t_5 n 0).bind fun (y_66 : (Unit) ⊕ ((Bool))) => lrK y_66 some fun (s_67 : Unit) => (p16 n t_5 (⟨[7, 7], some 2⟩ : Sl (Int))).bind fun t_488 => (p12 n x0).bind fun t_501 => (if (!t_488.2) = true then (p18 n t_5 t_501).bind fun t_507 => some t_507 else some false).bind fun q_506 => (if q_506 = true then (p11 n).bind fun t_514 => some t_514 else some false).bind fun q_513 => some q_513
set_option maxHeartbeats 4000000 in
set_option maxRecDepth 100000 in
/-- plugboard/plugboardlaw31.EventsApply -/
theorem c4 (K : Nat → Prop) (n : Nat) (w : World) (x0 : Sl (Int × Int × Int × Int)) (v0 : Value) (R0 : RepV (.sl gt1) w K v0 x0) (x1 : Int × Int × Int × Int) (v1 : Value) (R1 : RepV gt1 w K v1 x1) {r : (Bool)} (h : p4 n x0 x1 = some r) :
  Calls Try.prog 4 #[v0, v1] w (Ret1 .bool w (Kx K w.heap.size []) r) := by
 refine enter (args := [v0, v1]) Try.func4 rfl 119 rfl rfl fun a S => ?_
 have W := Wd.start w
 replace R0 := R0.arg
 replace R1 := R1.arg
 unfold p4 at h
 replace S : St 119 a [(0, v0), (1, v1)] := S
 refine wp_seq ?_
 refine wp_region_lit ?_
 refine w_go S rfl (op_box S rfl rfl rfl rfl rfl R1 ?_)
 clear S; intro a w_3 b_1 hb_4 B_2 S
 replace R0 := R0.box hb_4
 replace R1 := R1.box hb_4
 replace W := W.box hb_4
 refine wl_pure (l' := [(4, .bool false), (3, pB b_1), (0, v0), (1, v1)]) S tys tys_ok 1 (by kernel_rfl) ?_
 clear S; intro a S
 refine wpList_nil ?_
 refine then_n ?_
 replace S := S.sub (l' := [(3, pB b_1), (0, v0)]) (by exact ⟨rfl, rfl, trivial⟩)
 refine wp_seq ?_
 refine wp_region_lit ?_
 refine wl_pure (l' := [(17, v0), (3, pB b_1), (0, v0)]) S tys tys_ok 1 (by kernel_rfl) ?_
 clear S; intro a S
 obtain ⟨t_5, et_5, h⟩ := bindS h
 refine w_go S rfl (op_call (vs := [v0]) S rfl cb12 rfl rfl rfl (c12 (Kx K w.heap.size [some b_1]) n w_3 x0 _ R0 et_5) ?_)
 rintro _ w_9 ⟨v_6, rfl, R_7, hb_8⟩; refine ⟨_, rfl, ?_⟩
 replace R_7 := RepV.back R_7 W
 clear S; intro a S
 replace R0 := R0.step hb_8
 replace B_2 := B_2.step hb_8
 replace W := W.step hb_8
 refine wl_pure (l' := [(5, v_6), (18, v_6), (17, v0), (3, pB b_1), (0, v0)]) S tys tys_ok 1 (by kernel_rfl) ?_
 clear S; intro a S
 refine wpList_nil ?_
 refine then_n ?_
 replace S := S.sub (l' := [(5, v_6), (3, pB b_1), (0, v0)]) (by exact ⟨rfl, rfl, rfl, trivial⟩)
 refine wp_seq ?_
 refine wp_region_lit ?_
 refine w_go S rfl (op_load (t := gt1) (x := x1) S rfl ty40 rfl rfl rfl B_2.at_ ?_)
 clear S; intro a v_10 R_11 S
 obtain ⟨t_12, et_12, h⟩ := bindS h
 refine w_go S rfl (op_call (vs := [v_10, .int .i64 0]) S rfl cb13 rfl rfl rfl (c13 (Kx K w.heap.size [some b_1]) n w_9 x1 _ R_11 0 (by decide) et_12) ?_)
 rintro _ w_16 ⟨v_13, rfl, R_14, hb_15⟩; refine ⟨_, rfl, ?_⟩
 replace R_14 := RepV.back R_14 W
 clear S; intro a S
 replace R_7 := R_7.step hb_15
 replace R0 := R0.step hb_15
 replace R_11 := R_11.step hb_15
 replace B_2 := B_2.step hb_15
 replace W := W.step hb_15
 refine w_go S rfl (op_alloc (K := K) (n := w.heap.size) (L := [some b_1]) (t := gt2) (y := (0, 0, ⟨[], some 0⟩, 0)) S rfl rfl rfl _ z31 (fun w K => ⟨[.int .i64 0], [.int .u8 0, .slice .none 0 0, .int .u8 0], rfl, ⟨rfl, by decide⟩, ⟨[.int .u8 0], [.slice .none 0 0, .int .u8 0], rfl, ⟨rfl, by decide⟩, ⟨[.slice .none 0 0], [.int .u8 0], rfl, ⟨.none, 0, 0, rfl, rfl, Nat.le_refl _, by decide, fun k h => Option.some.inj h, .inl rfl⟩, ⟨rfl, by decide⟩⟩⟩⟩) ?_)
 clear S; intro a w_19 b_17 hb_20 B_18 S
 replace R_7 := R_7.box hb_20
 replace R0 := R0.box hb_20
 replace R_11 := R_11.box hb_20
 replace R_14 := R_14.box hb_20
 replace B_2 := B_2.box hb_20
 replace W := W.box hb_20
 refine w_go S rfl (op_store (t' := gt2) S rfl rfl ty31 rfl rfl rfl B_18 (by simp) Ln.whole R_14 ?_)
 intro w_21 hw_22 B_
 replace R_7 := R_7.wrote hw_22 (by simp)
 replace R0 := R0.wrote hw_22 (by simp)
 replace R_11 := R_11.wrote hw_22 (by simp)
 replace R_14 := R_14.wrote hw_22 (by simp)
 replace B_2 := B_2.wrote hw_22 (by simp) (W.bne (p := 1) (q := 0) (by decide) rfl rfl)
 replace W := W.wrote hw_22 (by simp)
 replace B_18 : Bx gt2 31 w_21 (Kx K w.heap.size [some b_17, some b_1]) b_17 t_12 := B_; clear B_
 refine wpList_nil ?_
 refine then_n ?_
 replace S := S.sub (l' := [(6, pB b_17), (5, v_6), (0, v0)]) (by exact ⟨rfl, rfl, rfl, trivial⟩)
 refine wp_seq ?_
 refine wp_region_lit ?_
 refine wl_pure (l' := [(22, v_6), (6, pB b_17), (5, v_6), (0, v0)]) S tys tys_ok 1 (by kernel_rfl) ?_
 clear S; intro a S
 refine w_go S rfl (op_load (t := gt2) (x := t_12) S rfl ty31 rfl rfl rfl B_18.at_ ?_)
 clear S; intro a v_23 R_24 S
 obtain ⟨t_25, et_25, h⟩ := bindS h
 refine w_go S rfl (op_call (vs := [v_6, v_23]) S rfl cb14 rfl rfl rfl (c14 (Kx K w.heap.size [some b_17, some b_1]) n w_21 t_5 _ R_7 t_12 _ R_24 et_25) ?_)
 rintro _ w_31 ⟨v_26, v_27, rfl, R_28, R_29, hb_30⟩; refine ⟨_, rfl, ?_⟩
 have NO_ := newO_of R_28 (Nat.le_refl _) hb_30
 replace R_28 := Ow.backO R_28 W
 replace R_29 := RepV.backO R_29 W
 clear S; intro a S
 replace R_7 := R_7.newO NO_
 replace R0 := R0.newO NO_
 replace R_24 := R_24.newO NO_
 replace B_2 := B_2.newO NO_
 replace B_18 := B_18.newO NO_
 replace W := W.newO NO_
 clear NO_
 obtain ⟨rfl, GR_29⟩ := RepV.int R_29
 refine wl_pureK (l' := [(8, .int .i64 t_25.2), (7, v_26), (6, pB b_17), (5, v_6), (0, v0)]) S tys tys_ok 5 [8, 7, 6, 5, 0] (by kernel_rfl) ?_
 clear S; intro a S
 refine wpList_nil ?_
 refine then_n ?_
 refine wp_seq ?_
 refine wp_region_lit ?_
 refine wl_pure (l' := [(28, v_6), (8, .int .i64 t_25.2), (7, v_26), (6, pB b_17), (5, v_6), (0, v0)]) S tys tys_ok 1 (by kernel_rfl) ?_
 clear S; intro a S
 refine w_go S rfl (op_load (t := gt2) (x := t_12) S rfl ty31 rfl rfl rfl B_18.at_ ?_)
 clear S; intro a v_32 R_33 S
 obtain ⟨t_34, et_34, h⟩ := bindS h
 refine w_go S rfl (op_call (vs := [v_6, v_32]) S rfl cb9 rfl rfl rfl (c9 (Kx K w.heap.size [v_26.ownBlock, some b_17, some b_1]) n w_31 t_5 _ R_7 t_12 _ R_33 et_34) ?_)
 rintro _ w_40 ⟨v_35, v_36, rfl, R_37, R_38, hb_39⟩; refine ⟨_, rfl, ?_⟩
 replace R_37 := RepV.back R_37 W
 replace R_38 := RepV.back R_38 W
 clear S; intro a S
 replace R_7 := R_7.step hb_39
 replace R0 := R0.step hb_39
 replace R_33 := R_33.step hb_39
 replace B_2 := B_2.step hb_39
 replace B_18 := B_18.step hb_39
 replace R_28 := R_28.step hb_39
 replace W := W.step hb_39
 obtain ⟨rfl, GR_38⟩ := RepV.int R_38
 refine wl_pureK (l' := [(10, .int .i64 t_34.2), (9, v_35), (8, .int .i64 t_25.2), (7, v_26), (5, v_6), (0, v0)]) S tys tys_ok 5 [10, 9, 8, 7, 5, 0] (by kernel_rfl) ?_
 clear S; intro a S
 refine wpList_nil ?_
 refine then_n ?_
 refine wp_seq ?_
 refine wp_seq ?_
 refine wp_region_lit ?_
 refine wl_pureK (l' := [(36, .bool (t_34.2 != t_25.2)), (9, v_35), (7, v_26), (5, v_6), (0, v0)]) S tys tys_ok 4 [36, 9, 7, 5, 0] (by kernel_rfl) ?_
 clear S; intro a S
 obtain ⟨q_41, eq_41, h⟩ := bindS h
 refine seg 5 (fun a_ w_ => St 119 a_ [(41, .bool q_41), (9, v_35), (5, v_6), (0, v0)] ∧ Wd w w_ [v_26.ownBlock, some b_17, some b_1] ∧ RepV (.sl gt0) w_ (Kx K w.heap.size [v_26.ownBlock, some b_17, some b_1]) v_35 t_34.1 ∧ RepV (.sl gt0) w_ (Kx K w.heap.size [v_26.ownBlock, some b_17, some b_1]) v_6 t_5 ∧ RepV (.sl gt1) w_ (Kx K w.heap.size [v_26.ownBlock, some b_17, some b_1]) v0 x0 ∧ Bx gt1 40 w_ (Kx K w.heap.size [v_26.ownBlock, some b_17, some b_1]) b_1 x1 ∧ Bx gt2 31 w_ (Kx K w.heap.size [v_26.ownBlock, some b_17, some b_1]) b_17 t_12) ?_ ?_
 ·by_cases hc : (t_34.2 != t_25.2) = false
  ·rw [if_pos hc] at eq_41; rw [hc] at S
   refine wl_pure (l' := [(38, v_26), (37, v_35), (36, .bool false), (9, v_35), (7, v_26), (5, v_6), (0, v0)]) S tys tys_ok 2 (by kernel_rfl) ?_
   clear S; intro a S
   obtain ⟨t_42, et_42, eq_41⟩ := bindS eq_41
   refine w_go S rfl (op_call (vs := [v_35, v_26]) S rfl cb15 rfl rfl rfl (c15 (Kx K w.heap.size []) n w_40 t_34.1 _ R_37.out (⟨t_25.1.xs, t_25.1.cap⟩ : Sl ((Sl (Int)) × Int × Int)) _ R_28.read et_42) ?_)
   rintro _ w_46 ⟨v_43, rfl, R_44, hb_45⟩; refine ⟨_, rfl, ?_⟩
   clear S; intro a S
   replace R_7 := R_7.step hb_45
   replace R0 := R0.step hb_45
   replace R_37 := R_37.step hb_45
   replace B_2 := B_2.step hb_45
   replace B_18 := B_18.step hb_45
   replace R_28 := R_28.step hb_45
   replace W := W.step hb_45
   obtain rfl := RepV.bool R_44
   refine wl_pureK (l' := [(41, .bool (!t_42)), (9, v_35), (5, v_6), (0, v0)]) S tys tys_ok 2 [41, 9, 5, 0] (by kernel_rfl) ?_
   clear S; intro a S
   obtain rfl := Option.some.inj eq_41
   exact ⟨S.sub (by exact ⟨rfl, rfl, rfl, rfl, trivial⟩), W, R_37, R_7, R0, B_2, B_18⟩
  ·rw [if_neg hc] at eq_41; rw [show (t_34.2 != t_25.2) = true from (by simpa using hc)] at S
   refine wl_pureK (l' := [(41, .bool true), (9, v_35), (5, v_6), (0, v0)]) S tys tys_ok 5 [41, 9, 5, 0] (by kernel_rfl) ?_
   clear S; intro a S
   obtain rfl := Option.some.inj eq_41
   exact ⟨S.sub (by exact ⟨rfl, rfl, rfl, rfl, trivial⟩), W, R_37, R_7, R0, B_2, B_18⟩
 clear S W eq_41; rintro a w_47 ⟨S, W, R_37, R_7, R0, B_2, B_18⟩
 refine wl_pure (l' := [(42, .bool q_41), (41, .bool q_41), (9, v_35), (5, v_6), (0, v0)]) S tys tys_ok 1 (by kernel_rfl) ?_
 clear S; intro a S
 obtain ⟨q_48, eq_48, h⟩ := bindS h
 refine seg 4 (fun a_ w_ => St 119 a_ [(46, .bool q_48), (5, v_6), (0, v0)] ∧ Wd w w_ [v_26.ownBlock, some b_17, some b_1] ∧ RepV (.sl gt0) w_ (Kx K w.heap.size [v_26.ownBlock, some b_17, some b_1]) v_6 t_5 ∧ RepV (.sl gt1) w_ (Kx K w.heap.size [v_26.ownBlock, some b_17, some b_1]) v0 x0 ∧ Bx gt1 40 w_ (Kx K w.heap.size [v_26.ownBlock, some b_17, some b_1]) b_1 x1 ∧ Bx gt2 31 w_ (Kx K w.heap.size [v_26.ownBlock, some b_17, some b_1]) b_17 t_12) ?_ ?_
 ·by_cases hc : q_41 = false
  ·rw [if_pos hc] at eq_48; rw [hc] at S
   refine wl_pure (l' := [(43, v_35), (42, .bool false), (41, .bool false), (9, v_35), (5, v_6), (0, v0)]) S tys tys_ok 1 (by kernel_rfl) ?_
   clear S; intro a S
   obtain ⟨t_49, et_49, eq_48⟩ := bindS eq_48
   refine w_go S rfl (op_call (vs := [v_35]) S rfl cb10 rfl rfl rfl (c10 (Kx K w.heap.size [v_26.ownBlock, some b_17, some b_1]) n w_47 t_34.1 _ R_37 et_49) ?_)
   rintro _ w_53 ⟨v_50, rfl, R_51, hb_52⟩; refine ⟨_, rfl, ?_⟩
   replace R_51 := RepV.back R_51 W
   clear S; intro a S
   replace R_37 := R_37.step hb_52
   replace R_7 := R_7.step hb_52
   replace R0 := R0.step hb_52
   replace B_2 := B_2.step hb_52
   replace B_18 := B_18.step hb_52
   replace W := W.step hb_52
   obtain ⟨rfl, GR_51⟩ := RepV.int R_51
   refine wl_pureK (l' := [(46, .bool (t_49 != 0)), (5, v_6), (0, v0)]) S tys tys_ok 2 [46, 5, 0] (by kernel_rfl) ?_
   clear S; intro a S
   obtain rfl := Option.some.inj eq_48
   exact ⟨S.sub (by exact ⟨rfl, rfl, rfl, trivial⟩), W, R_7, R0, B_2, B_18⟩
  ·rw [if_neg hc] at eq_48; rw [show q_41 = true from (by simpa using hc)] at S
   refine wl_pureK (l' := [(46, .bool true), (5, v_6), (0, v0)]) S tys tys_ok 4 [46, 5, 0] (by kernel_rfl) ?_
   clear S; intro a S
   obtain rfl := Option.some.inj eq_48
   exact ⟨S.sub (by exact ⟨rfl, rfl, rfl, trivial⟩), W, R_7, R0, B_2, B_18⟩
 clear S W eq_48; rintro a w_54 ⟨S, W, R_7, R0, B_2, B_18⟩
 refine wl_pure (l' := [(47, .bool q_48), (46, .bool q_48), (5, v_6), (0, v0)]) S tys tys_ok 1 (by kernel_rfl) ?_
 clear S; intro a S
 obtain ⟨q_55, eq_55, h⟩ := bindS h
 refine seg 4 (fun a_ w_ => St 119 a_ [(51, .bool q_55), (5, v_6), (0, v0)] ∧ Wd w w_ [v_26.ownBlock, some b_17, some b_1] ∧ RepV (.sl gt0) w_ (Kx K w.heap.size [v_26.ownBlock, some b_17, some b_1]) v_6 t_5 ∧ RepV (.sl gt1) w_ (Kx K w.heap.size [v_26.ownBlock, some b_17, some b_1]) v0 x0 ∧ Bx gt1 40 w_ (Kx K w.heap.size [v_26.ownBlock, some b_17, some b_1]) b_1 x1 ∧ Bx gt2 31 w_ (Kx K w.heap.size [v_26.ownBlock, some b_17, some b_1]) b_17 t_12) ?_ ?_
 ·by_cases hc : q_48 = false
  ·rw [if_pos hc] at eq_55; rw [hc] at S
   refine wl_pure (l' := [(48, v_6), (47, .bool false), (46, .bool false), (5, v_6), (0, v0)]) S tys tys_ok 1 (by kernel_rfl) ?_
   clear S; intro a S
   obtain ⟨t_56, et_56, eq_55⟩ := bindS eq_55
   refine w_go S rfl (op_call (vs := [v_6]) S rfl cb10 rfl rfl rfl (c10 (Kx K w.heap.size [v_26.ownBlock, some b_17, some b_1]) n w_54 t_5 _ R_7 et_56) ?_)
   rintro _ w_60 ⟨v_57, rfl, R_58, hb_59⟩; refine ⟨_, rfl, ?_⟩
   replace R_58 := RepV.back R_58 W
   clear S; intro a S
   replace R_7 := R_7.step hb_59
   replace R0 := R0.step hb_59
   replace B_2 := B_2.step hb_59
   replace B_18 := B_18.step hb_59
   replace W := W.step hb_59
   obtain ⟨rfl, GR_58⟩ := RepV.int R_58
   refine wl_pureK (l' := [(51, .bool (t_56 != 0)), (5, v_6), (0, v0)]) S tys tys_ok 2 [51, 5, 0] (by kernel_rfl) ?_
   clear S; intro a S
   obtain rfl := Option.some.inj eq_55
   exact ⟨S.sub (by exact ⟨rfl, rfl, rfl, trivial⟩), W, R_7, R0, B_2, B_18⟩
  ·rw [if_neg hc] at eq_55; rw [show q_48 = true from (by simpa using hc)] at S
   refine wl_pureK (l' := [(51, .bool true), (5, v_6), (0, v0)]) S tys tys_ok 4 [51, 5, 0] (by kernel_rfl) ?_
   clear S; intro a S
   obtain rfl := Option.some.inj eq_55
   exact ⟨S.sub (by exact ⟨rfl, rfl, rfl, trivial⟩), W, R_7, R0, B_2, B_18⟩
 clear S W eq_55; rintro a w_61 ⟨S, W, R_7, R0, B_2, B_18⟩
 refine wpList_nil ?_
 refine then_n ?_
 refine wp_cond_split (S.eval (show ev _ _ = some (.bool q_55) from rfl)) ?_ ?_
 ·intro hc
  rw [if_pos hc] at h
  refine wp_seq ?_
  refine wp_region_lit ?_
  refine wl_pureK (l' := [(4, .bool false)]) S tys tys_ok 1 [4] (by kernel_rfl) ?_
  clear S; intro a S
  refine wpList_nil ?_
  refine then_n ?_
  refine wp_ret ?_
  refine then_r ?_
  obtain rfl := Option.some.inj h
  exact b_ret1 S rfl rfl ⟨_, rfl, RepV.mkBool, W.below⟩
 ·intro hc
  rw [if_neg (Bool.eq_false_iff.1 hc)] at h
  refine wp_skip ?_
  refine then_n ?_
  replace S := S.sub (l' := [(5, v_6), (0, v0)]) (by exact ⟨rfl, rfl, trivial⟩)
  refine wp_seq ?_
  refine wp_seq ?_
  refine wp_region_lit ?_
  refine wl_pure (l' := [(11, .int .i64 0), (5, v_6), (0, v0)]) S tys tys_ok 1 (by kernel_rfl) ?_
  clear S; intro a S
  refine wpList_nil ?_
  refine then_n ?_
  obtain ⟨y_66, ey_66, h⟩ := bindS h
  refine wp_cut_ (fun a_ w_ => ∃ s_67 : Unit, y_66 = .inl s_67 ∧ (St 119 a_ [(0, v0), (5, v_6)] ∧ Wd w w_ [v_26.ownBlock, some b_17, some b_1] ∧ RepV (.sl gt1) w_ (Kx K w.heap.size [v_26.ownBlock, some b_17, some b_1]) v0 x0 ∧ RepV (.sl gt0) w_ (Kx K w.heap.size [v_26.ownBlock, some b_17, some b_1]) v_6 t_5 ∧ Bx gt1 40 w_ (Kx K w.heap.size [v_26.ownBlock, some b_17, some b_1]) b_1 x1 ∧ Bx gt2 31 w_ (Kx K w.heap.size [v_26.ownBlock, some b_17, some b_1]) b_17 t_12)) ?_ ?_
  ·refine wp_block ?_
   refine wp_loop_n (fun m_ a_ w_ => ∃ (c_62 : Int) , St 119 a_ [(11, .int .i64 c_62), (5, v_6), (0, v0)] ∧ Wd w w_ [v_26.ownBlock, some b_17, some b_1] ∧ InR .i64 c_62 ∧ RepV (.sl gt0) w_ (Kx K w.heap.size [v_26.ownBlock, some b_17, some b_1]) v_6 t_5 ∧ RepV (.sl gt1) w_ (Kx K w.heap.size [v_26.ownBlock, some b_17, some b_1]) v0 x0 ∧ Bx gt1 40 w_ (Kx K w.heap.size [v_26.ownBlock, some b_17, some b_1]) b_1 x1 ∧ Bx gt2 31 w_ (Kx K w.heap.size [v_26.ownBlock, some b_17, some b_1]) b_17 t_12 ∧ p4_l1 n t_5 m_ c_62 = some y_66) n ?_ ?_
   ·skip
    exact ⟨0, ⟨S.sub (by exact ⟨rfl, rfl, rfl, trivial⟩), W, (show InR .i64 0 by decide), R_7, R0, B_2, B_18, ey_66⟩⟩
   ·clear S W; rintro m_68 a w_70 ⟨c_62, S, W, G_63, R_7, R0, B_2, B_18, hl_69⟩
    cases m_68 with
    | zero => exact absurd hl_69 (by simp [p4_l1])
    | succ m_68 =>
     refine ⟨m_68, rfl, ?_⟩
     rw [p4_l1] at hl_69
     refine wp_seq ?_
     refine wp_seq ?_
     refine wp_region_lit ?_
     refine wl_pure (l' := [(53, v_6), (52, .int .i64 c_62), (11, .int .i64 c_62), (5, v_6), (0, v0)]) S tys tys_ok 2 (by kernel_rfl) ?_
     clear S; intro a S
     refine w_go S rfl (op_len (K := _) S rfl ty23 rfl rfl rfl R_7 ?_)
     clear S; intro a G_71 S
     refine wl_pureK (l' := [(55, .bool (decide (c_62 < (lenI t_5)))), (11, .int .i64 c_62), (5, v_6), (0, v0)]) S tys tys_ok 1 [55, 11, 5, 0] (by kernel_rfl) ?_
     clear S; intro a S
     refine wpList_nil ?_
     refine then_n ?_
     refine wp_cond_split (S.eval (show ev _ _ = some (.bool (decide (c_62 < (lenI t_5)))) from rfl)) ?_ ?_
     ·intro hc
      rw [if_pos hc] at hl_69
      refine wp_skip ?_
      refine then_n ?_
      replace S := S.sub (l' := [(11, .int .i64 c_62), (5, v_6), (0, v0)]) (by exact ⟨rfl, rfl, rfl, trivial⟩)
      refine wp_seq ?_
      refine wp_block ?_
      refine wp_seq ?_
      refine wp_region_lit ?_
      refine wl_pure (l' := [(61, .int .i64 c_62), (60, v_6), (59, v_6), (11, .int .i64 c_62), (5, v_6), (0, v0)]) S tys tys_ok 3 (by kernel_rfl) ?_
      clear S; intro a S
      obtain ⟨y_72, ey_72, hl_69⟩ := bindS hl_69
      refine w_go S rfl (op_indexAddr S rfl ty23 rfl rfl rfl R_7 rfl ey_72 ?_)
      clear S; intro a p_73 R_74 H_75 S
      refine wl_pureK (l' := [(63, .pointer (some (p_73.add (coff gf0 0)))), (59, v_6), (11, .int .i64 c_62), (5, v_6), (0, v0)]) S tys tys_ok 1 [63, 59, 11, 5, 0] (by kernel_rfl) ?_
      clear S; intro a S
      refine w_go S rfl (op_load (t := (.sl (.int .u8))) (x := y_72.1) S rfl ty25 rfl rfl rfl (RepAt.add 0 (RepAt.st (t := gf0) R_74)) ?_)
      clear S; intro a v_76 R_77 S
      obtain ⟨t_78, et_78, hl_69⟩ := bindS hl_69
      refine w_go S rfl (op_call (vs := [v_6, v_76]) S rfl cb16 rfl rfl rfl (c16 (Kx K w.heap.size [v_26.ownBlock, some b_17, some b_1]) n w_70 t_5 _ R_7 y_72.1 _ R_77 et_78) ?_)
      rintro _ w_84 ⟨v_79, v_80, rfl, R_81, R_82, hb_83⟩; refine ⟨_, rfl, ?_⟩
      replace R_81 := RepV.back R_81 W
      replace R_82 := RepV.back R_82 W
      clear S; intro a S
      replace R_7 := R_7.step hb_83
      replace R0 := R0.step hb_83
      replace R_77 := R_77.step hb_83
      replace B_2 := B_2.step hb_83
      replace B_18 := B_18.step hb_83
      replace W := W.step hb_83
      obtain rfl := RepV.bool R_82
      refine wl_pureK (l' := [(67, .bool t_78.2), (66, v_79), (11, .int .i64 c_62), (5, v_6), (0, v0)]) S tys tys_ok 3 [67, 66, 11, 5, 0] (by kernel_rfl) ?_
      clear S; intro a S
      refine w_go S rfl (op_alloc (K := K) (n := w.heap.size) (L := [v_26.ownBlock, some b_17, some b_1]) (t := gt0) (y := (⟨[], some 0⟩, 0, 0)) S rfl rfl rfl _ z33 (fun w K => ⟨[.slice .none 0 0], [.int .u8 0, .int .u8 0], rfl, ⟨.none, 0, 0, rfl, rfl, Nat.le_refl _, by decide, fun k h => Option.some.inj h, .inl rfl⟩, ⟨[.int .u8 0], [.int .u8 0], rfl, ⟨rfl, by decide⟩, ⟨rfl, by decide⟩⟩⟩) ?_)
      clear S; intro a w_87 b_85 hb_88 B_86 S
      replace R_7 := R_7.box hb_88
      replace R0 := R0.box hb_88
      replace R_81 := R_81.box hb_88
      replace B_2 := B_2.box hb_88
      replace B_18 := B_18.box hb_88
      replace W := W.box hb_88
      refine w_go S rfl (op_store (t' := gt0) S rfl rfl ty33 rfl rfl rfl B_86 (by simp) Ln.whole R_81 ?_)
      intro w_89 hw_90 B_
      replace R_7 := R_7.wrote hw_90 (by simp)
      replace R0 := R0.wrote hw_90 (by simp)
      replace R_81 := R_81.wrote hw_90 (by simp)
      replace B_2 := B_2.wrote hw_90 (by simp) (W.bne (p := 3) (q := 0) (by decide) rfl rfl)
      replace B_18 := B_18.wrote hw_90 (by simp) (W.bne (p := 2) (q := 0) (by decide) rfl rfl)
      replace W := W.wrote hw_90 (by simp)
      replace B_86 : Bx gt0 33 w_89 (Kx K w.heap.size [some b_85, v_26.ownBlock, some b_17, some b_1]) b_85 t_78.1 := B_; clear B_
      refine wl_pure (l' := [(13, .bool t_78.2), (12, pB b_85), (67, .bool t_78.2), (66, v_79), (11, .int .i64 c_62), (5, v_6), (0, v0)]) S tys tys_ok 1 (by kernel_rfl) ?_
      clear S; intro a S
      refine wpList_nil ?_
      refine then_n ?_
      replace S := S.sub (l' := [(13, .bool t_78.2), (12, pB b_85), (11, .int .i64 c_62), (5, v_6), (0, v0)]) (by exact ⟨rfl, rfl, rfl, rfl, rfl, trivial⟩)
      refine wp_seq ?_
      obtain ⟨q_91, eq_91, hl_69⟩ := bindS hl_69
      obtain ⟨y_95, t_101, HG_92⟩ : ∃ (y_95 : (Sl (Int)) × Int × Int) (t_101 : (Bool)) , ((!t_78.2) = false → (idx t_5.xs c_62) = some y_95 ∧ (p17 n t_78.1.1 y_95.1) = some t_101 ∧ (!t_101) = q_91) ∧ (¬ (!t_78.2) = false → true = q_91) := by
       by_cases hc : (!t_78.2) = false
       ·rw [if_pos hc] at eq_91
        obtain ⟨y_95, ey_95, eq_91⟩ := bindS eq_91
        obtain ⟨t_101, et_101, eq_91⟩ := bindS eq_91
        exact ⟨y_95, t_101, ⟨fun _ => ⟨ey_95, et_101, Option.some.inj eq_91⟩, fun k_ => absurd hc k_⟩⟩
       ·rw [if_neg hc] at eq_91
        exact ⟨default, default, ⟨fun k_ => absurd k_ hc, fun _ => Option.some.inj eq_91⟩⟩
      obtain ⟨q_106, eq_106, hl_69⟩ := bindS hl_69
      obtain ⟨y_110, HG_107⟩ : ∃ (y_110 : (Sl (Int)) × Int × Int) , (q_91 = false → (idx t_5.xs c_62) = some y_110 ∧ (t_78.1.2.1 != y_110.2.1) = q_106) ∧ (¬ q_91 = false → true = q_106) := by
       by_cases hc : q_91 = false
       ·rw [if_pos hc] at eq_106
        obtain ⟨y_110, ey_110, eq_106⟩ := bindS eq_106
        exact ⟨y_110, ⟨fun _ => ⟨ey_110, Option.some.inj eq_106⟩, fun k_ => absurd hc k_⟩⟩
       ·rw [if_neg hc] at eq_106
        exact ⟨default, ⟨fun k_ => absurd k_ hc, fun _ => Option.some.inj eq_106⟩⟩
      obtain ⟨q_116, eq_116, hl_69⟩ := bindS hl_69
      obtain ⟨y_120, HG_117⟩ : ∃ (y_120 : (Sl (Int)) × Int × Int) , (q_106 = false → (idx t_5.xs c_62) = some y_120 ∧ (t_78.1.2.2 != y_120.2.2) = q_116) ∧ (¬ q_106 = false → true = q_116) := by
       by_cases hc : q_106 = false
       ·rw [if_pos hc] at eq_116
        obtain ⟨y_120, ey_120, eq_116⟩ := bindS eq_116
        exact ⟨y_120, ⟨fun _ => ⟨ey_120, Option.some.inj eq_116⟩, fun k_ => absurd hc k_⟩⟩
       ·rw [if_neg hc] at eq_116
        exact ⟨default, ⟨fun k_ => absurd k_ hc, fun _ => Option.some.inj eq_116⟩⟩
      have hR : Rel (Kx K w.heap.size [some b_85, v_26.ownBlock, some b_17, some b_1]) Bl := Bl.rel _
      refine wp_region_all hR [eqv (.bool t_78.2), eqv (.bool (!t_78.2)), eqv (.bool (!t_78.2)), cndF (!t_78.2) false (eqv (.pointer (some ((⟨b_85, 0, .none⟩ : Addr).add (coff gf0 0))))), cndF (!t_78.2) false (isRep (.sl (.int .u8)) (Kx K w.heap.size [some b_85, v_26.ownBlock, some b_17, some b_1]) t_78.1.1), cndF (!t_78.2) false (isRep (.sl gt0) (Kx K w.heap.size [some b_85, v_26.ownBlock, some b_17, some b_1]) t_5), cndF (!t_78.2) false (isI .i64 c_62), cndF (!t_78.2) false (isEl gt0 (Kx K w.heap.size [some b_85, v_26.ownBlock, some b_17, some b_1]) y_95), cndF (!t_78.2) false (isEl (.sl (.int .u8)) (Kx K w.heap.size [some b_85, v_26.ownBlock, some b_17, some b_1]) y_95.1), cndF (!t_78.2) false (isRep (.sl (.int .u8)) (Kx K w.heap.size [some b_85, v_26.ownBlock, some b_17, some b_1]) y_95.1), cndF (!t_78.2) false (eqv (.bool t_101)), cndF (!t_78.2) false (eqv (.bool (!t_101))), eqv (.bool q_91), eqv (.bool q_91), cndF q_91 false (eqv (.pointer (some ((⟨b_85, 0, .none⟩ : Addr).add (coff gf0 1))))), cndF q_91 false (isI .u8 t_78.1.2.1), cndF q_91 false (isRep (.sl gt0) (Kx K w.heap.size [some b_85, v_26.ownBlock, some b_17, some b_1]) t_5), cndF q_91 false (isI .i64 c_62), cndF q_91 false (isEl gt0 (Kx K w.heap.size [some b_85, v_26.ownBlock, some b_17, some b_1]) y_110), cndF q_91 false (isEl (.int .u8) (Kx K w.heap.size [some b_85, v_26.ownBlock, some b_17, some b_1]) y_110.2.1), cndF q_91 false (isI .u8 y_110.2.1), cndF q_91 false (eqv (.bool (t_78.1.2.1 != y_110.2.1))), eqv (.bool q_106), eqv (.bool q_106), cndF q_106 false (eqv (.pointer (some ((⟨b_85, 0, .none⟩ : Addr).add (coff gf0 2))))), cndF q_106 false (isI .u8 t_78.1.2.2), cndF q_106 false (isRep (.sl gt0) (Kx K w.heap.size [some b_85, v_26.ownBlock, some b_17, some b_1]) t_5), cndF q_106 false (isI .i64 c_62), cndF q_106 false (isEl gt0 (Kx K w.heap.size [some b_85, v_26.ownBlock, some b_17, some b_1]) y_120), cndF q_106 false (isEl (.int .u8) (Kx K w.heap.size [some b_85, v_26.ownBlock, some b_17, some b_1]) y_120.2.2), cndF q_106 false (isI .u8 y_120.2.2), cndF q_106 false (eqv (.bool (t_78.1.2.2 != y_120.2.2))), eqv (.bool q_116)] [[], [(0, 68)], [(1, 69)], [(2, 70)], [(3, 71), (2, 70)], [(2, 70)], [(2, 70)], [(5, 73), (6, 74), (2, 70)], [(7, 75), (2, 70)], [(8, 76), (2, 70)], [(4, 72), (9, 77), (2, 70)], [(10, 78), (2, 70)], [(2, 70), (11, 79)], [(12, 80)], [(13, 81)], [(14, 82), (13, 81)], [(13, 81)], [(13, 81)], [(16, 84), (17, 85), (13, 81)], [(18, 86), (13, 81)], [(19, 87), (13, 81)], [(15, 83), (20, 88), (13, 81)], [(13, 81), (21, 89)], [(22, 90)], [(23, 91)], [(24, 92), (23, 91)], [(23, 91)], [(23, 91)], [(26, 94), (27, 95), (23, 91)], [(28, 96), (23, 91)], [(29, 97), (23, 91)], [(25, 93), (30, 98), (23, 91)], [(23, 91), (31, 99)]] (by kernel_rfl) (by rw [S.size]; kernel_rfl) (by kernel_rfl) (by kernel_rfl) rfl ⟨(stab_eqv _), (stab_eqv _), (stab_eqv _), (stab_cnd (stab_eqv _)), (stab_cnd (stab_rep hR)), (stab_cnd (stab_rep hR)), (stab_cnd stab_I), (stab_cnd (stab_el hR)), (stab_cnd (stab_el hR)), (stab_cnd (stab_rep hR)), (stab_cnd (stab_eqv _)), (stab_cnd (stab_eqv _)), (stab_eqv _), (stab_eqv _), (stab_cnd (stab_eqv _)), (stab_cnd stab_I), (stab_cnd (stab_rep hR)), (stab_cnd stab_I), (stab_cnd (stab_el hR)), (stab_cnd (stab_el hR)), (stab_cnd stab_I), (stab_cnd (stab_eqv _)), (stab_eqv _), (stab_eqv _), (stab_cnd (stab_eqv _)), (stab_cnd stab_I), (stab_cnd (stab_rep hR)), (stab_cnd stab_I), (stab_cnd (stab_el hR)), (stab_cnd (stab_el hR)), (stab_cnd stab_I), (stab_cnd (stab_eqv _)), (stab_eqv _), trivial⟩ ?_ ?_
      ·
       refine RunAll.cons (eqv (.bool t_78.2)) [] rfl rfl ?_ ?_
       ·intro W_ hW
        have S1 := S
        exact RPost.one (v := .bool t_78.2) S1 tys tys_ok rfl (by kernel_rfl) S.defers rfl (Below.refl _ _)
       refine RunAll.cons (eqv (.bool (!t_78.2))) [(eqv (.bool t_78.2), 68)] rfl rfl ?_ ?_
       ·intro W_ hW
        have S1 := S
        intro v_127 hF_126; obtain rfl : .bool t_78.2 = v_127 := Eq.symm hF_126
        replace S1 := S1.put (by decide : 68 < 119) (.bool t_78.2)
        exact RPost.one (v := .bool (!t_78.2)) S1 tys tys_ok rfl (by kernel_rfl) S.defers rfl (Below.refl _ _)
       refine RunAll.cons (eqv (.bool (!t_78.2))) [(eqv (.bool (!t_78.2)), 69)] rfl rfl ?_ ?_
       ·intro W_ hW
        have S1 := S
        intro v_129 hF_128; obtain rfl : .bool (!t_78.2) = v_129 := Eq.symm hF_128
        replace S1 := S1.put (by decide : 69 < 119) (.bool (!t_78.2))
        exact RPost.one (v := .bool (!t_78.2)) S1 tys tys_ok rfl (by kernel_rfl) S.defers rfl (Below.refl _ _)
       refine RunAll.cons (cndF (!t_78.2) false (eqv (.pointer (some ((⟨b_85, 0, .none⟩ : Addr).add (coff gf0 0)))))) [(eqv (.bool (!t_78.2)), 70)] rfl rfl ?_ ?_
       ·intro W_ hW
        by_cases hc0 : (!t_78.2) = false
        ·have hl0 : (!t_78.2) = false := hc0
         have S1 := S
         intro v_131 hF_130; obtain rfl : .bool (!t_78.2) = v_131 := Eq.symm hF_130
         replace S1 := S1.put (by decide : 70 < 119) (.bool (!t_78.2))
         refine fill_nil S1 ?_; clear S1; intro a_ S1
         replace B_86 := B_86.step hW
         rw [show (!t_78.2) = false from hl0] at S1
         exact RPost.one (v := .pointer (some ((⟨b_85, 0, .none⟩ : Addr).add (coff gf0 0)))) S1 tys tys_ok rfl (by kernel_rfl) S.defers ⟨fun _ => rfl, fun k_ => absurd hc0 k_⟩ (Below.refl _ _)
        ·have hl0 : (!t_78.2) = true := (by simpa using hc0)
         have S1 := S
         intro v_133 hF_132; obtain rfl : .bool (!t_78.2) = v_133 := Eq.symm hF_132
         replace S1 := S1.put (by decide : 70 < 119) (.bool (!t_78.2))
         refine fill_nil S1 ?_; clear S1; intro a_ S1
         rw [show (!t_78.2) = true from hl0] at S1
         exact RPost.one (v := undef) S1 tys tys_ok rfl (by kernel_rfl) S.defers ⟨fun k_ => absurd k_ hc0, fun _ => rfl⟩ (Below.refl _ _)
       refine RunAll.cons (cndF (!t_78.2) false (isRep (.sl (.int .u8)) (Kx K w.heap.size [some b_85, v_26.ownBlock, some b_17, some b_1]) t_78.1.1)) [(cndF (!t_78.2) false (eqv (.pointer (some ((⟨b_85, 0, .none⟩ : Addr).add (coff gf0 0))))), 71), (eqv (.bool (!t_78.2)), 70)] rfl rfl ?_ ?_
       ·intro W_ hW
        by_cases hc0 : (!t_78.2) = false
        ·have hl0 : (!t_78.2) = false := hc0
         have S1 := S
         intro v_134 hF_135
         replace hF_135 := cndF.pos hF_135 hc0
         revert hF_135
         revert v_134
         intro v_137 hF_136; obtain rfl : .pointer (some ((⟨b_85, 0, .none⟩ : Addr).add (coff gf0 0))) = v_137 := Eq.symm hF_136
         replace S1 := S1.put (by decide : 71 < 119) (.pointer (some ((⟨b_85, 0, .none⟩ : Addr).add (coff gf0 0))))
         intro v_139 hF_138; obtain rfl : .bool (!t_78.2) = v_139 := Eq.symm hF_138
         replace S1 := S1.put (by decide : 70 < 119) (.bool (!t_78.2))
         refine fill_nil S1 ?_; clear S1; intro a_ S1
         replace B_86 := B_86.step hW
         rw [show (!t_78.2) = false from hl0] at S1
         have S0 := S.defers; replace S := S1; clear S1
         obtain ⟨ey_95, et_101, _⟩ := (HG_92).1 hc0
         refine w_go S rfl (op_load (t := (.sl (.int .u8))) (x := t_78.1.1) S rfl ty25 rfl rfl rfl (RepAt.add 0 (RepAt.st (t := gf0) B_86.at_)) ?_)
         clear S; intro a v_140 R_141 S
         refine wpList_nil ?_
         exact RPost.mk_ S rfl S0 ⟨fun _ => R_141, fun k_ => absurd hc0 k_⟩ (Below.refl _ _)
        ·have hl0 : (!t_78.2) = true := (by simpa using hc0)
         have S1 := S
         intro v_142 hF_143
         obtain rfl := cndF.neg hF_143 hc0
         replace S1 := S1.put (by decide : 71 < 119) (undef)
         intro v_145 hF_144; obtain rfl : .bool (!t_78.2) = v_145 := Eq.symm hF_144
         replace S1 := S1.put (by decide : 70 < 119) (.bool (!t_78.2))
         refine fill_nil S1 ?_; clear S1; intro a_ S1
         rw [show (!t_78.2) = true from hl0] at S1
         exact RPost.one (v := undef) S1 tys tys_ok rfl (by kernel_rfl) S.defers ⟨fun k_ => absurd k_ hc0, fun _ => rfl⟩ (Below.refl _ _)
       refine RunAll.cons (cndF (!t_78.2) false (isRep (.sl gt0) (Kx K w.heap.size [some b_85, v_26.ownBlock, some b_17, some b_1]) t_5)) [(eqv (.bool (!t_78.2)), 70)] rfl rfl ?_ ?_
       ·intro W_ hW
        by_cases hc0 : (!t_78.2) = false
        ·have hl0 : (!t_78.2) = false := hc0
         have S1 := S
         intro v_147 hF_146; obtain rfl : .bool (!t_78.2) = v_147 := Eq.symm hF_146
         replace S1 := S1.put (by decide : 70 < 119) (.bool (!t_78.2))
         refine fill_nil S1 ?_; clear S1; intro a_ S1
         replace R_7 := R_7.step hW
         rw [show (!t_78.2) = false from hl0] at S1
         exact RPost.one (v := v_6) S1 tys tys_ok rfl (by kernel_rfl) S.defers ⟨fun _ => R_7, fun k_ => absurd hc0 k_⟩ (Below.refl _ _)
        ·have hl0 : (!t_78.2) = true := (by simpa using hc0)
         have S1 := S
         intro v_149 hF_148; obtain rfl : .bool (!t_78.2) = v_149 := Eq.symm hF_148
         replace S1 := S1.put (by decide : 70 < 119) (.bool (!t_78.2))
         refine fill_nil S1 ?_; clear S1; intro a_ S1
         rw [show (!t_78.2) = true from hl0] at S1
         exact RPost.one (v := undef) S1 tys tys_ok rfl (by kernel_rfl) S.defers ⟨fun k_ => absurd k_ hc0, fun _ => rfl⟩ (Below.refl _ _)
       refine RunAll.cons (cndF (!t_78.2) false (isI .i64 c_62)) [(eqv (.bool (!t_78.2)), 70)] rfl rfl ?_ ?_
       ·intro W_ hW
        by_cases hc0 : (!t_78.2) = false
        ·have hl0 : (!t_78.2) = false := hc0
         have S1 := S
         intro v_151 hF_150; obtain rfl : .bool (!t_78.2) = v_151 := Eq.symm hF_150
         replace S1 := S1.put (by decide : 70 < 119) (.bool (!t_78.2))
         refine fill_nil S1 ?_; clear S1; intro a_ S1
         rw [show (!t_78.2) = false from hl0] at S1
         exact RPost.one (v := .int .i64 c_62) S1 tys tys_ok rfl (by kernel_rfl) S.defers ⟨fun _ => ⟨rfl, G_63⟩, fun k_ => absurd hc0 k_⟩ (Below.refl _ _)
        ·have hl0 : (!t_78.2) = true := (by simpa using hc0)
         have S1 := S
         intro v_153 hF_152; obtain rfl : .bool (!t_78.2) = v_153 := Eq.symm hF_152
         replace S1 := S1.put (by decide : 70 < 119) (.bool (!t_78.2))
         refine fill_nil S1 ?_; clear S1; intro a_ S1
         rw [show (!t_78.2) = true from hl0] at S1
         exact RPost.one (v := undef) S1 tys tys_ok rfl (by kernel_rfl) S.defers ⟨fun k_ => absurd k_ hc0, fun _ => rfl⟩ (Below.refl _ _)
       refine RunAll.cons (cndF (!t_78.2) false (isEl gt0 (Kx K w.heap.size [some b_85, v_26.ownBlock, some b_17, some b_1]) y_95)) [(cndF (!t_78.2) false (isRep (.sl gt0) (Kx K w.heap.size [some b_85, v_26.ownBlock, some b_17, some b_1]) t_5), 73), (cndF (!t_78.2) false (isI .i64 c_62), 74), (eqv (.bool (!t_78.2)), 70)] rfl rfl ?_ ?_
       ·intro W_ hW
        by_cases hc0 : (!t_78.2) = false
        ·have hl0 : (!t_78.2) = false := hc0
         have S1 := S
         intro v_154 hF_155
         replace hF_155 := cndF.pos hF_155 hc0
         revert hF_155
         revert v_154
         intro v_157 hF_156; replace hF_156 : RepV _ _ _ _ _ := hF_156
         replace S1 := S1.put (by decide : 73 < 119) (v_157)
         intro v_158 hF_159
         replace hF_159 := cndF.pos hF_159 hc0
         revert hF_159
         revert v_158
         rintro _ ⟨rfl, hF_160⟩
         replace S1 := S1.put (by decide : 74 < 119) (.int .i64 c_62)
         intro v_163 hF_162; obtain rfl : .bool (!t_78.2) = v_163 := Eq.symm hF_162
         replace S1 := S1.put (by decide : 70 < 119) (.bool (!t_78.2))
         refine fill_nil S1 ?_; clear S1; intro a_ S1
         replace W := W.step hW
         rw [show (!t_78.2) = false from hl0] at S1
         have S0 := S.defers; replace S := S1; clear S1
         obtain ⟨ey_95, et_101, _⟩ := (HG_92).1 hc0
         refine w_go S rfl (op_indexAddr S rfl ty23 rfl rfl rfl hF_156 rfl ey_95 ?_)
         clear S; intro a p_164 R_165 H_166 S
         refine wpList_nil ?_
         exact RPost.mk_ S rfl S0 ⟨fun _ => ⟨_, rfl, R_165, H_166⟩, fun k_ => absurd hc0 k_⟩ (Below.refl _ _)
        ·have hl0 : (!t_78.2) = true := (by simpa using hc0)
         have S1 := S
         intro v_167 hF_168
         obtain rfl := cndF.neg hF_168 hc0
         replace S1 := S1.put (by decide : 73 < 119) (undef)
         intro v_169 hF_170
         obtain rfl := cndF.neg hF_170 hc0
         replace S1 := S1.put (by decide : 74 < 119) (undef)
         intro v_172 hF_171; obtain rfl : .bool (!t_78.2) = v_172 := Eq.symm hF_171
         replace S1 := S1.put (by decide : 70 < 119) (.bool (!t_78.2))
         refine fill_nil S1 ?_; clear S1; intro a_ S1
         rw [show (!t_78.2) = true from hl0] at S1
         exact RPost.one (v := undef) S1 tys tys_ok rfl (by kernel_rfl) S.defers ⟨fun k_ => absurd k_ hc0, fun _ => rfl⟩ (Below.refl _ _)
       refine RunAll.cons (cndF (!t_78.2) false (isEl (.sl (.int .u8)) (Kx K w.heap.size [some b_85, v_26.ownBlock, some b_17, some b_1]) y_95.1)) [(cndF (!t_78.2) false (isEl gt0 (Kx K w.heap.size [some b_85, v_26.ownBlock, some b_17, some b_1]) y_95), 75), (eqv (.bool (!t_78.2)), 70)] rfl rfl ?_ ?_
       ·intro W_ hW
        by_cases hc0 : (!t_78.2) = false
        ·have hl0 : (!t_78.2) = false := hc0
         have S1 := S
         intro v_173 hF_174
         replace hF_174 := cndF.pos hF_174 hc0
         revert hF_174
         revert v_173
         rintro _ ⟨p_177, rfl, R_178, H_179⟩
         replace S1 := S1.put (by decide : 75 < 119) (.pointer (some p_177))
         intro v_181 hF_180; obtain rfl : .bool (!t_78.2) = v_181 := Eq.symm hF_180
         replace S1 := S1.put (by decide : 70 < 119) (.bool (!t_78.2))
         refine fill_nil S1 ?_; clear S1; intro a_ S1
         rw [show (!t_78.2) = false from hl0] at S1
         exact RPost.one (v := .pointer (some (p_177.add (coff gf0 0)))) S1 tys tys_ok rfl (by kernel_rfl) S.defers ⟨fun _ => ⟨_, rfl, (RepAt.add 0 (RepAt.st (t := gf0) R_178)), (by simpa [Addr.add] using H_179)⟩, fun k_ => absurd hc0 k_⟩ (Below.refl _ _)
        ·have hl0 : (!t_78.2) = true := (by simpa using hc0)
         have S1 := S
         intro v_182 hF_183
         obtain rfl := cndF.neg hF_183 hc0
         replace S1 := S1.put (by decide : 75 < 119) (undef)
         intro v_185 hF_184; obtain rfl : .bool (!t_78.2) = v_185 := Eq.symm hF_184
         replace S1 := S1.put (by decide : 70 < 119) (.bool (!t_78.2))
         refine fill_nil S1 ?_; clear S1; intro a_ S1
         rw [show (!t_78.2) = true from hl0] at S1
         exact RPost.one (v := undef) S1 tys tys_ok rfl (by kernel_rfl) S.defers ⟨fun k_ => absurd k_ hc0, fun _ => rfl⟩ (Below.refl _ _)
       refine RunAll.cons (cndF (!t_78.2) false (isRep (.sl (.int .u8)) (Kx K w.heap.size [some b_85, v_26.ownBlock, some b_17, some b_1]) y_95.1)) [(cndF (!t_78.2) false (isEl (.sl (.int .u8)) (Kx K w.heap.size [some b_85, v_26.ownBlock, some b_17, some b_1]) y_95.1), 76), (eqv (.bool (!t_78.2)), 70)] rfl rfl ?_ ?_
       ·intro W_ hW
        by_cases hc0 : (!t_78.2) = false
        ·have hl0 : (!t_78.2) = false := hc0
         have S1 := S
         intro v_186 hF_187
         replace hF_187 := cndF.pos hF_187 hc0
         revert hF_187
         revert v_186
         rintro _ ⟨p_190, rfl, R_191, H_192⟩
         replace S1 := S1.put (by decide : 76 < 119) (.pointer (some p_190))
         intro v_194 hF_193; obtain rfl : .bool (!t_78.2) = v_194 := Eq.symm hF_193
         replace S1 := S1.put (by decide : 70 < 119) (.bool (!t_78.2))
         refine fill_nil S1 ?_; clear S1; intro a_ S1
         rw [show (!t_78.2) = false from hl0] at S1
         have S0 := S.defers; replace S := S1; clear S1
         obtain ⟨ey_95, et_101, _⟩ := (HG_92).1 hc0
         refine w_go S rfl (op_load (t := (.sl (.int .u8))) (x := y_95.1) S rfl ty25 rfl rfl rfl R_191 ?_)
         clear S; intro a v_195 R_196 S
         refine wpList_nil ?_
         exact RPost.mk_ S rfl S0 ⟨fun _ => R_196, fun k_ => absurd hc0 k_⟩ (Below.refl _ _)
        ·have hl0 : (!t_78.2) = true := (by simpa using hc0)
         have S1 := S
         intro v_197 hF_198
         obtain rfl := cndF.neg hF_198 hc0
         replace S1 := S1.put (by decide : 76 < 119) (undef)
         intro v_200 hF_199; obtain rfl : .bool (!t_78.2) = v_200 := Eq.symm hF_199
         replace S1 := S1.put (by decide : 70 < 119) (.bool (!t_78.2))
         refine fill_nil S1 ?_; clear S1; intro a_ S1
         rw [show (!t_78.2) = true from hl0] at S1
         exact RPost.one (v := undef) S1 tys tys_ok rfl (by kernel_rfl) S.defers ⟨fun k_ => absurd k_ hc0, fun _ => rfl⟩ (Below.refl _ _)
       refine RunAll.cons (cndF (!t_78.2) false (eqv (.bool t_101))) [(cndF (!t_78.2) false (isRep (.sl (.int .u8)) (Kx K w.heap.size [some b_85, v_26.ownBlock, some b_17, some b_1]) t_78.1.1), 72), (cndF (!t_78.2) false (isRep (.sl (.int .u8)) (Kx K w.heap.size [some b_85, v_26.ownBlock, some b_17, some b_1]) y_95.1), 77), (eqv (.bool (!t_78.2)), 70)] rfl rfl ?_ ?_
       ·intro W_ hW
        by_cases hc0 : (!t_78.2) = false
        ·have hl0 : (!t_78.2) = false := hc0
         have S1 := S
         intro v_201 hF_202
         replace hF_202 := cndF.pos hF_202 hc0
         revert hF_202
         revert v_201
         intro v_204 hF_203; replace hF_203 : RepV _ _ _ _ _ := hF_203
         replace S1 := S1.put (by decide : 72 < 119) (v_204)
         intro v_205 hF_206
         replace hF_206 := cndF.pos hF_206 hc0
         revert hF_206
         revert v_205
         intro v_208 hF_207; replace hF_207 : RepV _ _ _ _ _ := hF_207
         replace S1 := S1.put (by decide : 77 < 119) (v_208)
         intro v_210 hF_209; obtain rfl : .bool (!t_78.2) = v_210 := Eq.symm hF_209
         replace S1 := S1.put (by decide : 70 < 119) (.bool (!t_78.2))
         refine fill_nil S1 ?_; clear S1; intro a_ S1
         replace W := W.step hW
         rw [show (!t_78.2) = false from hl0] at S1
         have S0 := S.defers; replace S := S1; clear S1
         obtain ⟨ey_95, et_101, _⟩ := (HG_92).1 hc0
         refine w_go S rfl (op_call (vs := [v_204, v_208]) S rfl cb17 rfl rfl rfl (c17 (Kx K w.heap.size [some b_85, v_26.ownBlock, some b_17, some b_1]) n W_ t_78.1.1 _ hF_203 y_95.1 _ hF_207 et_101) ?_)
         rintro _ w_214 ⟨v_211, rfl, R_212, hb_213⟩; refine ⟨_, rfl, ?_⟩
         replace R_212 := RepV.back R_212 W
         clear S; intro a S
         obtain rfl := RepV.bool R_212
         refine wpList_nil ?_
         exact RPost.mk_ S rfl S0 ⟨fun _ => rfl, fun k_ => absurd hc0 k_⟩ (hb_213)
        ·have hl0 : (!t_78.2) = true := (by simpa using hc0)
         have S1 := S
         intro v_215 hF_216
         obtain rfl := cndF.neg hF_216 hc0
         replace S1 := S1.put (by decide : 72 < 119) (undef)
         intro v_217 hF_218
         obtain rfl := cndF.neg hF_218 hc0
         replace S1 := S1.put (by decide : 77 < 119) (undef)
         intro v_220 hF_219; obtain rfl : .bool (!t_78.2) = v_220 := Eq.symm hF_219
         replace S1 := S1.put (by decide : 70 < 119) (.bool (!t_78.2))
         refine fill_nil S1 ?_; clear S1; intro a_ S1
         rw [show (!t_78.2) = true from hl0] at S1
         exact RPost.one (v := undef) S1 tys tys_ok rfl (by kernel_rfl) S.defers ⟨fun k_ => absurd k_ hc0, fun _ => rfl⟩ (Below.refl _ _)
       refine RunAll.cons (cndF (!t_78.2) false (eqv (.bool (!t_101)))) [(cndF (!t_78.2) false (eqv (.bool t_101)), 78), (eqv (.bool (!t_78.2)), 70)] rfl rfl ?_ ?_
       ·intro W_ hW
        by_cases hc0 : (!t_78.2) = false
        ·have hl0 : (!t_78.2) = false := hc0
         have S1 := S
         intro v_221 hF_222
         replace hF_222 := cndF.pos hF_222 hc0
         revert hF_222
         revert v_221
         intro v_224 hF_223; obtain rfl : .bool t_101 = v_224 := Eq.symm hF_223
         replace S1 := S1.put (by decide : 78 < 119) (.bool t_101)
         intro v_226 hF_225; obtain rfl : .bool (!t_78.2) = v_226 := Eq.symm hF_225
         replace S1 := S1.put (by decide : 70 < 119) (.bool (!t_78.2))
         refine fill_nil S1 ?_; clear S1; intro a_ S1
         rw [show (!t_78.2) = false from hl0] at S1
         exact RPost.one (v := .bool (!t_101)) S1 tys tys_ok rfl (by kernel_rfl) S.defers ⟨fun _ => rfl, fun k_ => absurd hc0 k_⟩ (Below.refl _ _)
        ·have hl0 : (!t_78.2) = true := (by simpa using hc0)
         have S1 := S
         intro v_227 hF_228
         obtain rfl := cndF.neg hF_228 hc0
         replace S1 := S1.put (by decide : 78 < 119) (undef)
         intro v_230 hF_229; obtain rfl : .bool (!t_78.2) = v_230 := Eq.symm hF_229
         replace S1 := S1.put (by decide : 70 < 119) (.bool (!t_78.2))
         refine fill_nil S1 ?_; clear S1; intro a_ S1
         rw [show (!t_78.2) = true from hl0] at S1
         exact RPost.one (v := undef) S1 tys tys_ok rfl (by kernel_rfl) S.defers ⟨fun k_ => absurd k_ hc0, fun _ => rfl⟩ (Below.refl _ _)
       refine RunAll.cons (eqv (.bool q_91)) [(eqv (.bool (!t_78.2)), 70), (cndF (!t_78.2) false (eqv (.bool (!t_101))), 79)] rfl rfl ?_ ?_
       ·intro W_ hW
        by_cases hc0 : (!t_78.2) = false
        ·have hl0 : (!t_78.2) = false := hc0
         have S1 := S
         intro v_232 hF_231; obtain rfl : .bool (!t_78.2) = v_232 := Eq.symm hF_231
         replace S1 := S1.put (by decide : 70 < 119) (.bool (!t_78.2))
         intro v_233 hF_234
         replace hF_234 := cndF.pos hF_234 hc0
         revert hF_234
         revert v_233
         intro v_236 hF_235; obtain rfl : .bool (!t_101) = v_236 := Eq.symm hF_235
         replace S1 := S1.put (by decide : 79 < 119) (.bool (!t_101))
         refine fill_nil S1 ?_; clear S1; intro a_ S1
         rw [show (!t_78.2) = false from hl0] at S1
         exact RPost.one (v := .bool (!t_101)) S1 tys tys_ok rfl (by kernel_rfl) S.defers (congrArg Value.bool ((HG_92).1 hc0).2.2) (Below.refl _ _)
        ·have hl0 : (!t_78.2) = true := (by simpa using hc0)
         have S1 := S
         intro v_238 hF_237; obtain rfl : .bool (!t_78.2) = v_238 := Eq.symm hF_237
         replace S1 := S1.put (by decide : 70 < 119) (.bool (!t_78.2))
         intro v_239 hF_240
         obtain rfl := cndF.neg hF_240 hc0
         replace S1 := S1.put (by decide : 79 < 119) (undef)
         refine fill_nil S1 ?_; clear S1; intro a_ S1
         rw [show (!t_78.2) = true from hl0] at S1
         exact RPost.one (v := .bool true) S1 tys tys_ok rfl (by kernel_rfl) S.defers (congrArg Value.bool ((HG_92).2 hc0)) (Below.refl _ _)
       refine RunAll.cons (eqv (.bool q_91)) [(eqv (.bool q_91), 80)] rfl rfl ?_ ?_
       ·intro W_ hW
        have S1 := S
        intro v_242 hF_241; obtain rfl : .bool q_91 = v_242 := Eq.symm hF_241
        replace S1 := S1.put (by decide : 80 < 119) (.bool q_91)
        exact RPost.one (v := .bool q_91) S1 tys tys_ok rfl (by kernel_rfl) S.defers rfl (Below.refl _ _)
       refine RunAll.cons (cndF q_91 false (eqv (.pointer (some ((⟨b_85, 0, .none⟩ : Addr).add (coff gf0 1)))))) [(eqv (.bool q_91), 81)] rfl rfl ?_ ?_
       ·intro W_ hW
        by_cases hc1 : q_91 = false
        ·have hl1 : q_91 = false := hc1
         have S1 := S
         intro v_244 hF_243; obtain rfl : .bool q_91 = v_244 := Eq.symm hF_243
         replace S1 := S1.put (by decide : 81 < 119) (.bool q_91)
         refine fill_nil S1 ?_; clear S1; intro a_ S1
         replace B_86 := B_86.step hW
         rw [show q_91 = false from hl1] at S1
         exact RPost.one (v := .pointer (some ((⟨b_85, 0, .none⟩ : Addr).add (coff gf0 1)))) S1 tys tys_ok rfl (by kernel_rfl) S.defers ⟨fun _ => rfl, fun k_ => absurd hc1 k_⟩ (Below.refl _ _)
        ·have hl1 : q_91 = true := (by simpa using hc1)
         have S1 := S
         intro v_246 hF_245; obtain rfl : .bool q_91 = v_246 := Eq.symm hF_245
         replace S1 := S1.put (by decide : 81 < 119) (.bool q_91)
         refine fill_nil S1 ?_; clear S1; intro a_ S1
         rw [show q_91 = true from hl1] at S1
         exact RPost.one (v := undef) S1 tys tys_ok rfl (by kernel_rfl) S.defers ⟨fun k_ => absurd k_ hc1, fun _ => rfl⟩ (Below.refl _ _)
       refine RunAll.cons (cndF q_91 false (isI .u8 t_78.1.2.1)) [(cndF q_91 false (eqv (.pointer (some ((⟨b_85, 0, .none⟩ : Addr).add (coff gf0 1))))), 82), (eqv (.bool q_91), 81)] rfl rfl ?_ ?_
       ·intro W_ hW
        by_cases hc1 : q_91 = false
        ·have hl1 : q_91 = false := hc1
         have S1 := S
         intro v_247 hF_248
         replace hF_248 := cndF.pos hF_248 hc1
         revert hF_248
         revert v_247
         intro v_250 hF_249; obtain rfl : .pointer (some ((⟨b_85, 0, .none⟩ : Addr).add (coff gf0 1))) = v_250 := Eq.symm hF_249
         replace S1 := S1.put (by decide : 82 < 119) (.pointer (some ((⟨b_85, 0, .none⟩ : Addr).add (coff gf0 1))))
         intro v_252 hF_251; obtain rfl : .bool q_91 = v_252 := Eq.symm hF_251
         replace S1 := S1.put (by decide : 81 < 119) (.bool q_91)
         refine fill_nil S1 ?_; clear S1; intro a_ S1
         replace B_86 := B_86.step hW
         rw [show q_91 = false from hl1] at S1
         have S0 := S.defers; replace S := S1; clear S1
         obtain ⟨ey_110, _⟩ := (HG_107).1 hc1
         refine w_go S rfl (op_load (t := (.int .u8)) (x := t_78.1.2.1) S rfl ty29 rfl rfl rfl (RepAt.add 1 (RepAt.st (t := gf0) B_86.at_)) ?_)
         clear S; intro a v_253 R_254 S
         obtain ⟨rfl, GR_254⟩ := RepV.int R_254
         refine wpList_nil ?_
         exact RPost.mk_ S rfl S0 ⟨fun _ => ⟨rfl, GR_254⟩, fun k_ => absurd hc1 k_⟩ (Below.refl _ _)
        ·have hl1 : q_91 = true := (by simpa using hc1)
         have S1 := S
         intro v_255 hF_256
         obtain rfl := cndF.neg hF_256 hc1
         replace S1 := S1.put (by decide : 82 < 119) (undef)
         intro v_258 hF_257; obtain rfl : .bool q_91 = v_258 := Eq.symm hF_257
         replace S1 := S1.put (by decide : 81 < 119) (.bool q_91)
         refine fill_nil S1 ?_; clear S1; intro a_ S1
         rw [show q_91 = true from hl1] at S1
         exact RPost.one (v := undef) S1 tys tys_ok rfl (by kernel_rfl) S.defers ⟨fun k_ => absurd k_ hc1, fun _ => rfl⟩ (Below.refl _ _)
       refine RunAll.cons (cndF q_91 false (isRep (.sl gt0) (Kx K w.heap.size [some b_85, v_26.ownBlock, some b_17, some b_1]) t_5)) [(eqv (.bool q_91), 81)] rfl rfl ?_ ?_
       ·intro W_ hW
        by_cases hc1 : q_91 = false
        ·have hl1 : q_91 = false := hc1
         have S1 := S
         intro v_260 hF_259; obtain rfl : .bool q_91 = v_260 := Eq.symm hF_259
         replace S1 := S1.put (by decide : 81 < 119) (.bool q_91)
         refine fill_nil S1 ?_; clear S1; intro a_ S1
         replace R_7 := R_7.step hW
         rw [show q_91 = false from hl1] at S1
         exact RPost.one (v := v_6) S1 tys tys_ok rfl (by kernel_rfl) S.defers ⟨fun _ => R_7, fun k_ => absurd hc1 k_⟩ (Below.refl _ _)
        ·have hl1 : q_91 = true := (by simpa using hc1)
         have S1 := S
         intro v_262 hF_261; obtain rfl : .bool q_91 = v_262 := Eq.symm hF_261
         replace S1 := S1.put (by decide : 81 < 119) (.bool q_91)
         refine fill_nil S1 ?_; clear S1; intro a_ S1
         rw [show q_91 = true from hl1] at S1
         exact RPost.one (v := undef) S1 tys tys_ok rfl (by kernel_rfl) S.defers ⟨fun k_ => absurd k_ hc1, fun _ => rfl⟩ (Below.refl _ _)
       refine RunAll.cons (cndF q_91 false (isI .i64 c_62)) [(eqv (.bool q_91), 81)] rfl rfl ?_ ?_
       ·intro W_ hW
        by_cases hc1 : q_91 = false
        ·have hl1 : q_91 = false := hc1
         have S1 := S
         intro v_264 hF_263; obtain rfl : .bool q_91 = v_264 := Eq.symm hF_263
         replace S1 := S1.put (by decide : 81 < 119) (.bool q_91)
         refine fill_nil S1 ?_; clear S1; intro a_ S1
         rw [show q_91 = false from hl1] at S1
         exact RPost.one (v := .int .i64 c_62) S1 tys tys_ok rfl (by kernel_rfl) S.defers ⟨fun _ => ⟨rfl, G_63⟩, fun k_ => absurd hc1 k_⟩ (Below.refl _ _)
        ·have hl1 : q_91 = true := (by simpa using hc1)
         have S1 := S
         intro v_266 hF_265; obtain rfl : .bool q_91 = v_266 := Eq.symm hF_265
         replace S1 := S1.put (by decide : 81 < 119) (.bool q_91)
         refine fill_nil S1 ?_; clear S1; intro a_ S1
         rw [show q_91 = true from hl1] at S1
         exact RPost.one (v := undef) S1 tys tys_ok rfl (by kernel_rfl) S.defers ⟨fun k_ => absurd k_ hc1, fun _ => rfl⟩ (Below.refl _ _)
       refine RunAll.cons (cndF q_91 false (isEl gt0 (Kx K w.heap.size [some b_85, v_26.ownBlock, some b_17, some b_1]) y_110)) [(cndF q_91 false (isRep (.sl gt0) (Kx K w.heap.size [some b_85, v_26.ownBlock, some b_17, some b_1]) t_5), 84), (cndF q_91 false (isI .i64 c_62), 85), (eqv (.bool q_91), 81)] rfl rfl ?_ ?_
       ·intro W_ hW
        by_cases hc1 : q_91 = false
        ·have hl1 : q_91 = false := hc1
         have S1 := S
         intro v_267 hF_268
         replace hF_268 := cndF.pos hF_268 hc1
         revert hF_268
         revert v_267
         intro v_270 hF_269; replace hF_269 : RepV _ _ _ _ _ := hF_269
         replace S1 := S1.put (by decide : 84 < 119) (v_270)
         intro v_271 hF_272
         replace hF_272 := cndF.pos hF_272 hc1
         revert hF_272
         revert v_271
         rintro _ ⟨rfl, hF_273⟩
         replace S1 := S1.put (by decide : 85 < 119) (.int .i64 c_62)
         intro v_276 hF_275; obtain rfl : .bool q_91 = v_276 := Eq.symm hF_275
         replace S1 := S1.put (by decide : 81 < 119) (.bool q_91)
         refine fill_nil S1 ?_; clear S1; intro a_ S1
         replace W := W.step hW
         rw [show q_91 = false from hl1] at S1
         have S0 := S.defers; replace S := S1; clear S1
         obtain ⟨ey_110, _⟩ := (HG_107).1 hc1
         refine w_go S rfl (op_indexAddr S rfl ty23 rfl rfl rfl hF_269 rfl ey_110 ?_)
         clear S; intro a p_277 R_278 H_279 S
         refine wpList_nil ?_
         exact RPost.mk_ S rfl S0 ⟨fun _ => ⟨_, rfl, R_278, H_279⟩, fun k_ => absurd hc1 k_⟩ (Below.refl _ _)
        ·have hl1 : q_91 = true := (by simpa using hc1)
         have S1 := S
         intro v_280 hF_281
         obtain rfl := cndF.neg hF_281 hc1
         replace S1 := S1.put (by decide : 84 < 119) (undef)
         intro v_282 hF_283
         obtain rfl := cndF.neg hF_283 hc1
         replace S1 := S1.put (by decide : 85 < 119) (undef)
         intro v_285 hF_284; obtain rfl : .bool q_91 = v_285 := Eq.symm hF_284
         replace S1 := S1.put (by decide : 81 < 119) (.bool q_91)
         refine fill_nil S1 ?_; clear S1; intro a_ S1
         rw [show q_91 = true from hl1] at S1
         exact RPost.one (v := undef) S1 tys tys_ok rfl (by kernel_rfl) S.defers ⟨fun k_ => absurd k_ hc1, fun _ => rfl⟩ (Below.refl _ _)
       refine RunAll.cons (cndF q_91 false (isEl (.int .u8) (Kx K w.heap.size [some b_85, v_26.ownBlock, some b_17, some b_1]) y_110.2.1)) [(cndF q_91 false (isEl gt0 (Kx K w.heap.size [some b_85, v_26.ownBlock, some b_17, some b_1]) y_110), 86), (eqv (.bool q_91), 81)] rfl rfl ?_ ?_
       ·intro W_ hW
        by_cases hc1 : q_91 = false
        ·have hl1 : q_91 = false := hc1
         have S1 := S
         intro v_286 hF_287
         replace hF_287 := cndF.pos hF_287 hc1
         revert hF_287
         revert v_286
         rintro _ ⟨p_290, rfl, R_291, H_292⟩
         replace S1 := S1.put (by decide : 86 < 119) (.pointer (some p_290))
         intro v_294 hF_293; obtain rfl : .bool q_91 = v_294 := Eq.symm hF_293
         replace S1 := S1.put (by decide : 81 < 119) (.bool q_91)
         refine fill_nil S1 ?_; clear S1; intro a_ S1
         rw [show q_91 = false from hl1] at S1
         exact RPost.one (v := .pointer (some (p_290.add (coff gf0 1)))) S1 tys tys_ok rfl (by kernel_rfl) S.defers ⟨fun _ => ⟨_, rfl, (RepAt.add 1 (RepAt.st (t := gf0) R_291)), (by simpa [Addr.add] using H_292)⟩, fun k_ => absurd hc1 k_⟩ (Below.refl _ _)
        ·have hl1 : q_91 = true := (by simpa using hc1)
         have S1 := S
         intro v_295 hF_296
         obtain rfl := cndF.neg hF_296 hc1
         replace S1 := S1.put (by decide : 86 < 119) (undef)
         intro v_298 hF_297; obtain rfl : .bool q_91 = v_298 := Eq.symm hF_297
         replace S1 := S1.put (by decide : 81 < 119) (.bool q_91)
         refine fill_nil S1 ?_; clear S1; intro a_ S1
         rw [show q_91 = true from hl1] at S1
         exact RPost.one (v := undef) S1 tys tys_ok rfl (by kernel_rfl) S.defers ⟨fun k_ => absurd k_ hc1, fun _ => rfl⟩ (Below.refl _ _)
       refine RunAll.cons (cndF q_91 false (isI .u8 y_110.2.1)) [(cndF q_91 false (isEl (.int .u8) (Kx K w.heap.size [some b_85, v_26.ownBlock, some b_17, some b_1]) y_110.2.1), 87), (eqv (.bool q_91), 81)] rfl rfl ?_ ?_
       ·intro W_ hW
        by_cases hc1 : q_91 = false
        ·have hl1 : q_91 = false := hc1
         have S1 := S
         intro v_299 hF_300
         replace hF_300 := cndF.pos hF_300 hc1
         revert hF_300
         revert v_299
         rintro _ ⟨p_303, rfl, R_304, H_305⟩
         replace S1 := S1.put (by decide : 87 < 119) (.pointer (some p_303))
         intro v_307 hF_306; obtain rfl : .bool q_91 = v_307 := Eq.symm hF_306
         replace S1 := S1.put (by decide : 81 < 119) (.bool q_91)
         refine fill_nil S1 ?_; clear S1; intro a_ S1
         rw [show q_91 = false from hl1] at S1
         have S0 := S.defers; replace S := S1; clear S1
         obtain ⟨ey_110, _⟩ := (HG_107).1 hc1
         refine w_go S rfl (op_load (t := (.int .u8)) (x := y_110.2.1) S rfl ty29 rfl rfl rfl R_304 ?_)
         clear S; intro a v_308 R_309 S
         obtain ⟨rfl, GR_309⟩ := RepV.int R_309
         refine wpList_nil ?_
         exact RPost.mk_ S rfl S0 ⟨fun _ => ⟨rfl, GR_309⟩, fun k_ => absurd hc1 k_⟩ (Below.refl _ _)
        ·have hl1 : q_91 = true := (by simpa using hc1)
         have S1 := S
         intro v_310 hF_311
         obtain rfl := cndF.neg hF_311 hc1
         replace S1 := S1.put (by decide : 87 < 119) (undef)
         intro v_313 hF_312; obtain rfl : .bool q_91 = v_313 := Eq.symm hF_312
         replace S1 := S1.put (by decide : 81 < 119) (.bool q_91)
         refine fill_nil S1 ?_; clear S1; intro a_ S1
         rw [show q_91 = true from hl1] at S1
         exact RPost.one (v := undef) S1 tys tys_ok rfl (by kernel_rfl) S.defers ⟨fun k_ => absurd k_ hc1, fun _ => rfl⟩ (Below.refl _ _)
       refine RunAll.cons (cndF q_91 false (eqv (.bool (t_78.1.2.1 != y_110.2.1)))) [(cndF q_91 false (isI .u8 t_78.1.2.1), 83), (cndF q_91 false (isI .u8 y_110.2.1), 88), (eqv (.bool q_91), 81)] rfl rfl ?_ ?_
       ·intro W_ hW
        by_cases hc1 : q_91 = false
        ·have hl1 : q_91 = false := hc1
         have S1 := S
         intro v_314 hF_315
         replace hF_315 := cndF.pos hF_315 hc1
         revert hF_315
         revert v_314
         rintro _ ⟨rfl, hF_316⟩
         replace S1 := S1.put (by decide : 83 < 119) (.int .u8 t_78.1.2.1)
         intro v_318 hF_319
         replace hF_319 := cndF.pos hF_319 hc1
         revert hF_319
         revert v_318
         rintro _ ⟨rfl, hF_320⟩
         replace S1 := S1.put (by decide : 88 < 119) (.int .u8 y_110.2.1)
         intro v_323 hF_322; obtain rfl : .bool q_91 = v_323 := Eq.symm hF_322
         replace S1 := S1.put (by decide : 81 < 119) (.bool q_91)
         refine fill_nil S1 ?_; clear S1; intro a_ S1
         rw [show q_91 = false from hl1] at S1
         exact RPost.one (v := .bool (t_78.1.2.1 != y_110.2.1)) S1 tys tys_ok rfl (by kernel_rfl) S.defers ⟨fun _ => rfl, fun k_ => absurd hc1 k_⟩ (Below.refl _ _)
        ·have hl1 : q_91 = true := (by simpa using hc1)
         have S1 := S
         intro v_324 hF_325
         obtain rfl := cndF.neg hF_325 hc1
         replace S1 := S1.put (by decide : 83 < 119) (undef)
         intro v_326 hF_327
         obtain rfl := cndF.neg hF_327 hc1
         replace S1 := S1.put (by decide : 88 < 119) (undef)
         intro v_329 hF_328; obtain rfl : .bool q_91 = v_329 := Eq.symm hF_328
         replace S1 := S1.put (by decide : 81 < 119) (.bool q_91)
         refine fill_nil S1 ?_; clear S1; intro a_ S1
         rw [show q_91 = true from hl1] at S1
         exact RPost.one (v := undef) S1 tys tys_ok rfl (by kernel_rfl) S.defers ⟨fun k_ => absurd k_ hc1, fun _ => rfl⟩ (Below.refl _ _)
       refine RunAll.cons (eqv (.bool q_106)) [(eqv (.bool q_91), 81), (cndF q_91 false (eqv (.bool (t_78.1.2.1 != y_110.2.1))), 89)] rfl rfl ?_ ?_
       ·intro W_ hW
        by_cases hc1 : q_91 = false
        ·have hl1 : q_91 = false := hc1
         have S1 := S
         intro v_331 hF_330; obtain rfl : .bool q_91 = v_331 := Eq.symm hF_330
         replace S1 := S1.put (by decide : 81 < 119) (.bool q_91)
         intro v_332 hF_333
         replace hF_333 := cndF.pos hF_333 hc1
         revert hF_333
         revert v_332
         intro v_335 hF_334; obtain rfl : .bool (t_78.1.2.1 != y_110.2.1) = v_335 := Eq.symm hF_334
         replace S1 := S1.put (by decide : 89 < 119) (.bool (t_78.1.2.1 != y_110.2.1))
         refine fill_nil S1 ?_; clear S1; intro a_ S1
         rw [show q_91 = false from hl1] at S1
         exact RPost.one (v := .bool (t_78.1.2.1 != y_110.2.1)) S1 tys tys_ok rfl (by kernel_rfl) S.defers (congrArg Value.bool ((HG_107).1 hc1).2) (Below.refl _ _)
        ·have hl1 : q_91 = true := (by simpa using hc1)
         have S1 := S
         intro v_337 hF_336; obtain rfl : .bool q_91 = v_337 := Eq.symm hF_336
         replace S1 := S1.put (by decide : 81 < 119) (.bool q_91)
         intro v_338 hF_339
         obtain rfl := cndF.neg hF_339 hc1
         replace S1 := S1.put (by decide : 89 < 119) (undef)
         refine fill_nil S1 ?_; clear S1; intro a_ S1
         rw [show q_91 = true from hl1] at S1
         exact RPost.one (v := .bool true) S1 tys tys_ok rfl (by kernel_rfl) S.defers (congrArg Value.bool ((HG_107).2 hc1)) (Below.refl _ _)
       refine RunAll.cons (eqv (.bool q_106)) [(eqv (.bool q_106), 90)] rfl rfl ?_ ?_
       ·intro W_ hW
        have S1 := S
        intro v_341 hF_340; obtain rfl : .bool q_106 = v_341 := Eq.symm hF_340
        replace S1 := S1.put (by decide : 90 < 119) (.bool q_106)
        exact RPost.one (v := .bool q_106) S1 tys tys_ok rfl (by kernel_rfl) S.defers rfl (Below.refl _ _)
       refine RunAll.cons (cndF q_106 false (eqv (.pointer (some ((⟨b_85, 0, .none⟩ : Addr).add (coff gf0 2)))))) [(eqv (.bool q_106), 91)] rfl rfl ?_ ?_
       ·intro W_ hW
        by_cases hc2 : q_106 = false
        ·have hl2 : q_106 = false := hc2
         have S1 := S
         intro v_343 hF_342; obtain rfl : .bool q_106 = v_343 := Eq.symm hF_342
         replace S1 := S1.put (by decide : 91 < 119) (.bool q_106)
         refine fill_nil S1 ?_; clear S1; intro a_ S1
         replace B_86 := B_86.step hW
         rw [show q_106 = false from hl2] at S1
         exact RPost.one (v := .pointer (some ((⟨b_85, 0, .none⟩ : Addr).add (coff gf0 2)))) S1 tys tys_ok rfl (by kernel_rfl) S.defers ⟨fun _ => rfl, fun k_ => absurd hc2 k_⟩ (Below.refl _ _)
        ·have hl2 : q_106 = true := (by simpa using hc2)
         have S1 := S
         intro v_345 hF_344; obtain rfl : .bool q_106 = v_345 := Eq.symm hF_344
         replace S1 := S1.put (by decide : 91 < 119) (.bool q_106)
         refine fill_nil S1 ?_; clear S1; intro a_ S1
         rw [show q_106 = true from hl2] at S1
         exact RPost.one (v := undef) S1 tys tys_ok rfl (by kernel_rfl) S.defers ⟨fun k_ => absurd k_ hc2, fun _ => rfl⟩ (Below.refl _ _)
       refine RunAll.cons (cndF q_106 false (isI .u8 t_78.1.2.2)) [(cndF q_106 false (eqv (.pointer (some ((⟨b_85, 0, .none⟩ : Addr).add (coff gf0 2))))), 92), (eqv (.bool q_106), 91)] rfl rfl ?_ ?_
       ·intro W_ hW
        by_cases hc2 : q_106 = false
        ·have hl2 : q_106 = false := hc2
         have S1 := S
         intro v_346 hF_347
         replace hF_347 := cndF.pos hF_347 hc2
         revert hF_347
         revert v_346
         intro v_349 hF_348; obtain rfl : .pointer (some ((⟨b_85, 0, .none⟩ : Addr).add (coff gf0 2))) = v_349 := Eq.symm hF_348
         replace S1 := S1.put (by decide : 92 < 119) (.pointer (some ((⟨b_85, 0, .none⟩ : Addr).add (coff gf0 2))))
         intro v_351 hF_350; obtain rfl : .bool q_106 = v_351 := Eq.symm hF_350
         replace S1 := S1.put (by decide : 91 < 119) (.bool q_106)
         refine fill_nil S1 ?_; clear S1; intro a_ S1
         replace B_86 := B_86.step hW
         rw [show q_106 = false from hl2] at S1
         have S0 := S.defers; replace S := S1; clear S1
         obtain ⟨ey_120, _⟩ := (HG_117).1 hc2
         refine w_go S rfl (op_load (t := (.int .u8)) (x := t_78.1.2.2) S rfl ty5 rfl rfl rfl (RepAt.add 2 (RepAt.st (t := gf0) B_86.at_)) ?_)
         clear S; intro a v_352 R_353 S
         obtain ⟨rfl, GR_353⟩ := RepV.int R_353
         refine wpList_nil ?_
         exact RPost.mk_ S rfl S0 ⟨fun _ => ⟨rfl, GR_353⟩, fun k_ => absurd hc2 k_⟩ (Below.refl _ _)
        ·have hl2 : q_106 = true := (by simpa using hc2)
         have S1 := S
         intro v_354 hF_355
         obtain rfl := cndF.neg hF_355 hc2
         replace S1 := S1.put (by decide : 92 < 119) (undef)
         intro v_357 hF_356; obtain rfl : .bool q_106 = v_357 := Eq.symm hF_356
         replace S1 := S1.put (by decide : 91 < 119) (.bool q_106)
         refine fill_nil S1 ?_; clear S1; intro a_ S1
         rw [show q_106 = true from hl2] at S1
         exact RPost.one (v := undef) S1 tys tys_ok rfl (by kernel_rfl) S.defers ⟨fun k_ => absurd k_ hc2, fun _ => rfl⟩ (Below.refl _ _)
       refine RunAll.cons (cndF q_106 false (isRep (.sl gt0) (Kx K w.heap.size [some b_85, v_26.ownBlock, some b_17, some b_1]) t_5)) [(eqv (.bool q_106), 91)] rfl rfl ?_ ?_
       ·intro W_ hW
        by_cases hc2 : q_106 = false
        ·have hl2 : q_106 = false := hc2
         have S1 := S
         intro v_359 hF_358; obtain rfl : .bool q_106 = v_359 := Eq.symm hF_358
         replace S1 := S1.put (by decide : 91 < 119) (.bool q_106)
         refine fill_nil S1 ?_; clear S1; intro a_ S1
         replace R_7 := R_7.step hW
         rw [show q_106 = false from hl2] at S1
         exact RPost.one (v := v_6) S1 tys tys_ok rfl (by kernel_rfl) S.defers ⟨fun _ => R_7, fun k_ => absurd hc2 k_⟩ (Below.refl _ _)
        ·have hl2 : q_106 = true := (by simpa using hc2)
         have S1 := S
         intro v_361 hF_360; obtain rfl : .bool q_106 = v_361 := Eq.symm hF_360
         replace S1 := S1.put (by decide : 91 < 119) (.bool q_106)
         refine fill_nil S1 ?_; clear S1; intro a_ S1
         rw [show q_106 = true from hl2] at S1
         exact RPost.one (v := undef) S1 tys tys_ok rfl (by kernel_rfl) S.defers ⟨fun k_ => absurd k_ hc2, fun _ => rfl⟩ (Below.refl _ _)
       refine RunAll.cons (cndF q_106 false (isI .i64 c_62)) [(eqv (.bool q_106), 91)] rfl rfl ?_ ?_
       ·intro W_ hW
        by_cases hc2 : q_106 = false
        ·have hl2 : q_106 = false := hc2
         have S1 := S
         intro v_363 hF_362; obtain rfl : .bool q_106 = v_363 := Eq.symm hF_362
         replace S1 := S1.put (by decide : 91 < 119) (.bool q_106)
         refine fill_nil S1 ?_; clear S1; intro a_ S1
         rw [show q_106 = false from hl2] at S1
         exact RPost.one (v := .int .i64 c_62) S1 tys tys_ok rfl (by kernel_rfl) S.defers ⟨fun _ => ⟨rfl, G_63⟩, fun k_ => absurd hc2 k_⟩ (Below.refl _ _)
        ·have hl2 : q_106 = true := (by simpa using hc2)
         have S1 := S
         intro v_365 hF_364; obtain rfl : .bool q_106 = v_365 := Eq.symm hF_364
         replace S1 := S1.put (by decide : 91 < 119) (.bool q_106)
         refine fill_nil S1 ?_; clear S1; intro a_ S1
         rw [show q_106 = true from hl2] at S1
         exact RPost.one (v := undef) S1 tys tys_ok rfl (by kernel_rfl) S.defers ⟨fun k_ => absurd k_ hc2, fun _ => rfl⟩ (Below.refl _ _)
       refine RunAll.cons (cndF q_106 false (isEl gt0 (Kx K w.heap.size [some b_85, v_26.ownBlock, some b_17, some b_1]) y_120)) [(cndF q_106 false (isRep (.sl gt0) (Kx K w.heap.size [some b_85, v_26.ownBlock, some b_17, some b_1]) t_5), 94), (cndF q_106 false (isI .i64 c_62), 95), (eqv (.bool q_106), 91)] rfl rfl ?_ ?_
       ·intro W_ hW
        by_cases hc2 : q_106 = false
        ·have hl2 : q_106 = false := hc2
         have S1 := S
         intro v_366 hF_367
         replace hF_367 := cndF.pos hF_367 hc2
         revert hF_367
         revert v_366
         intro v_369 hF_368; replace hF_368 : RepV _ _ _ _ _ := hF_368
         replace S1 := S1.put (by decide : 94 < 119) (v_369)
         intro v_370 hF_371
         replace hF_371 := cndF.pos hF_371 hc2
         revert hF_371
         revert v_370
         rintro _ ⟨rfl, hF_372⟩
         replace S1 := S1.put (by decide : 95 < 119) (.int .i64 c_62)
         intro v_375 hF_374; obtain rfl : .bool q_106 = v_375 := Eq.symm hF_374
         replace S1 := S1.put (by decide : 91 < 119) (.bool q_106)
         refine fill_nil S1 ?_; clear S1; intro a_ S1
         replace W := W.step hW
         rw [show q_106 = false from hl2] at S1
         have S0 := S.defers; replace S := S1; clear S1
         obtain ⟨ey_120, _⟩ := (HG_117).1 hc2
         refine w_go S rfl (op_indexAddr S rfl ty23 rfl rfl rfl hF_368 rfl ey_120 ?_)
         clear S; intro a p_376 R_377 H_378 S
         refine wpList_nil ?_
         exact RPost.mk_ S rfl S0 ⟨fun _ => ⟨_, rfl, R_377, H_378⟩, fun k_ => absurd hc2 k_⟩ (Below.refl _ _)
        ·have hl2 : q_106 = true := (by simpa using hc2)
         have S1 := S
         intro v_379 hF_380
         obtain rfl := cndF.neg hF_380 hc2
         replace S1 := S1.put (by decide : 94 < 119) (undef)
         intro v_381 hF_382
         obtain rfl := cndF.neg hF_382 hc2
         replace S1 := S1.put (by decide : 95 < 119) (undef)
         intro v_384 hF_383; obtain rfl : .bool q_106 = v_384 := Eq.symm hF_383
         replace S1 := S1.put (by decide : 91 < 119) (.bool q_106)
         refine fill_nil S1 ?_; clear S1; intro a_ S1
         rw [show q_106 = true from hl2] at S1
         exact RPost.one (v := undef) S1 tys tys_ok rfl (by kernel_rfl) S.defers ⟨fun k_ => absurd k_ hc2, fun _ => rfl⟩ (Below.refl _ _)
       refine RunAll.cons (cndF q_106 false (isEl (.int .u8) (Kx K w.heap.size [some b_85, v_26.ownBlock, some b_17, some b_1]) y_120.2.2)) [(cndF q_106 false (isEl gt0 (Kx K w.heap.size [some b_85, v_26.ownBlock, some b_17, some b_1]) y_120), 96), (eqv (.bool q_106), 91)] rfl rfl ?_ ?_
       ·intro W_ hW
        by_cases hc2 : q_106 = false
        ·have hl2 : q_106 = false := hc2
         have S1 := S
         intro v_385 hF_386
         replace hF_386 := cndF.pos hF_386 hc2
         revert hF_386
         revert v_385
         rintro _ ⟨p_389, rfl, R_390, H_391⟩
         replace S1 := S1.put (by decide : 96 < 119) (.pointer (some p_389))
         intro v_393 hF_392; obtain rfl : .bool q_106 = v_393 := Eq.symm hF_392
         replace S1 := S1.put (by decide : 91 < 119) (.bool q_106)
         refine fill_nil S1 ?_; clear S1; intro a_ S1
         rw [show q_106 = false from hl2] at S1
         exact RPost.one (v := .pointer (some (p_389.add (coff gf0 2)))) S1 tys tys_ok rfl (by kernel_rfl) S.defers ⟨fun _ => ⟨_, rfl, (RepAt.add 2 (RepAt.st (t := gf0) R_390)), (by simpa [Addr.add] using H_391)⟩, fun k_ => absurd hc2 k_⟩ (Below.refl _ _)
        ·have hl2 : q_106 = true := (by simpa using hc2)
         have S1 := S
         intro v_394 hF_395
         obtain rfl := cndF.neg hF_395 hc2
         replace S1 := S1.put (by decide : 96 < 119) (undef)
         intro v_397 hF_396; obtain rfl : .bool q_106 = v_397 := Eq.symm hF_396
         replace S1 := S1.put (by decide : 91 < 119) (.bool q_106)
         refine fill_nil S1 ?_; clear S1; intro a_ S1
         rw [show q_106 = true from hl2] at S1
         exact RPost.one (v := undef) S1 tys tys_ok rfl (by kernel_rfl) S.defers ⟨fun k_ => absurd k_ hc2, fun _ => rfl⟩ (Below.refl _ _)
       refine RunAll.cons (cndF q_106 false (isI .u8 y_120.2.2)) [(cndF q_106 false (isEl (.int .u8) (Kx K w.heap.size [some b_85, v_26.ownBlock, some b_17, some b_1]) y_120.2.2), 97), (eqv (.bool q_106), 91)] rfl rfl ?_ ?_
       ·intro W_ hW
        by_cases hc2 : q_106 = false
        ·have hl2 : q_106 = false := hc2
         have S1 := S
         intro v_398 hF_399
         replace hF_399 := cndF.pos hF_399 hc2
         revert hF_399
         revert v_398
         rintro _ ⟨p_402, rfl, R_403, H_404⟩
         replace S1 := S1.put (by decide : 97 < 119) (.pointer (some p_402))
         intro v_406 hF_405; obtain rfl : .bool q_106 = v_406 := Eq.symm hF_405
         replace S1 := S1.put (by decide : 91 < 119) (.bool q_106)
         refine fill_nil S1 ?_; clear S1; intro a_ S1
         rw [show q_106 = false from hl2] at S1
         have S0 := S.defers; replace S := S1; clear S1
         obtain ⟨ey_120, _⟩ := (HG_117).1 hc2
         refine w_go S rfl (op_load (t := (.int .u8)) (x := y_120.2.2) S rfl ty5 rfl rfl rfl R_403 ?_)
         clear S; intro a v_407 R_408 S
         obtain ⟨rfl, GR_408⟩ := RepV.int R_408
         refine wpList_nil ?_
         exact RPost.mk_ S rfl S0 ⟨fun _ => ⟨rfl, GR_408⟩, fun k_ => absurd hc2 k_⟩ (Below.refl _ _)
        ·have hl2 : q_106 = true := (by simpa using hc2)
         have S1 := S
         intro v_409 hF_410
         obtain rfl := cndF.neg hF_410 hc2
         replace S1 := S1.put (by decide : 97 < 119) (undef)
         intro v_412 hF_411; obtain rfl : .bool q_106 = v_412 := Eq.symm hF_411
         replace S1 := S1.put (by decide : 91 < 119) (.bool q_106)
         refine fill_nil S1 ?_; clear S1; intro a_ S1
         rw [show q_106 = true from hl2] at S1
         exact RPost.one (v := undef) S1 tys tys_ok rfl (by kernel_rfl) S.defers ⟨fun k_ => absurd k_ hc2, fun _ => rfl⟩ (Below.refl _ _)
       refine RunAll.cons (cndF q_106 false (eqv (.bool (t_78.1.2.2 != y_120.2.2)))) [(cndF q_106 false (isI .u8 t_78.1.2.2), 93), (cndF q_106 false (isI .u8 y_120.2.2), 98), (eqv (.bool q_106), 91)] rfl rfl ?_ ?_
       ·intro W_ hW
        by_cases hc2 : q_106 = false
        ·have hl2 : q_106 = false := hc2
         have S1 := S
         intro v_413 hF_414
         replace hF_414 := cndF.pos hF_414 hc2
         revert hF_414
         revert v_413
         rintro _ ⟨rfl, hF_415⟩
         replace S1 := S1.put (by decide : 93 < 119) (.int .u8 t_78.1.2.2)
         intro v_417 hF_418
         replace hF_418 := cndF.pos hF_418 hc2
         revert hF_418
         revert v_417
         rintro _ ⟨rfl, hF_419⟩
         replace S1 := S1.put (by decide : 98 < 119) (.int .u8 y_120.2.2)
         intro v_422 hF_421; obtain rfl : .bool q_106 = v_422 := Eq.symm hF_421
         replace S1 := S1.put (by decide : 91 < 119) (.bool q_106)
         refine fill_nil S1 ?_; clear S1; intro a_ S1
         rw [show q_106 = false from hl2] at S1
         exact RPost.one (v := .bool (t_78.1.2.2 != y_120.2.2)) S1 tys tys_ok rfl (by kernel_rfl) S.defers ⟨fun _ => rfl, fun k_ => absurd hc2 k_⟩ (Below.refl _ _)
        ·have hl2 : q_106 = true := (by simpa using hc2)
         have S1 := S
         intro v_423 hF_424
         obtain rfl := cndF.neg hF_424 hc2
         replace S1 := S1.put (by decide : 93 < 119) (undef)
         intro v_425 hF_426
         obtain rfl := cndF.neg hF_426 hc2
         replace S1 := S1.put (by decide : 98 < 119) (undef)
         intro v_428 hF_427; obtain rfl : .bool q_106 = v_428 := Eq.symm hF_427
         replace S1 := S1.put (by decide : 91 < 119) (.bool q_106)
         refine fill_nil S1 ?_; clear S1; intro a_ S1
         rw [show q_106 = true from hl2] at S1
         exact RPost.one (v := undef) S1 tys tys_ok rfl (by kernel_rfl) S.defers ⟨fun k_ => absurd k_ hc2, fun _ => rfl⟩ (Below.refl _ _)
       refine RunAll.cons (eqv (.bool q_116)) [(eqv (.bool q_106), 91), (cndF q_106 false (eqv (.bool (t_78.1.2.2 != y_120.2.2))), 99)] rfl rfl ?_ ?_
       ·intro W_ hW
        by_cases hc2 : q_106 = false
        ·have hl2 : q_106 = false := hc2
         have S1 := S
         intro v_430 hF_429; obtain rfl : .bool q_106 = v_430 := Eq.symm hF_429
         replace S1 := S1.put (by decide : 91 < 119) (.bool q_106)
         intro v_431 hF_432
         replace hF_432 := cndF.pos hF_432 hc2
         revert hF_432
         revert v_431
         intro v_434 hF_433; obtain rfl : .bool (t_78.1.2.2 != y_120.2.2) = v_434 := Eq.symm hF_433
         replace S1 := S1.put (by decide : 99 < 119) (.bool (t_78.1.2.2 != y_120.2.2))
         refine fill_nil S1 ?_; clear S1; intro a_ S1
         rw [show q_106 = false from hl2] at S1
         exact RPost.one (v := .bool (t_78.1.2.2 != y_120.2.2)) S1 tys tys_ok rfl (by kernel_rfl) S.defers (congrArg Value.bool ((HG_117).1 hc2).2) (Below.refl _ _)
        ·have hl2 : q_106 = true := (by simpa using hc2)
         have S1 := S
         intro v_436 hF_435; obtain rfl : .bool q_106 = v_436 := Eq.symm hF_435
         replace S1 := S1.put (by decide : 91 < 119) (.bool q_106)
         intro v_437 hF_438
         obtain rfl := cndF.neg hF_438 hc2
         replace S1 := S1.put (by decide : 99 < 119) (undef)
         refine fill_nil S1 ?_; clear S1; intro a_ S1
         rw [show q_106 = true from hl2] at S1
         exact RPost.one (v := .bool true) S1 tys tys_ok rfl (by kernel_rfl) S.defers (congrArg Value.bool ((HG_117).2 hc2)) (Below.refl _ _)
       exact trivial
      intro w_439 hb_440
      refine EndE.some_ rfl ?_
      intro v_442 hF_441; obtain rfl : .bool t_78.2 = v_442 := Eq.symm hF_441
      replace S := S.put (by decide : 68 < 119) (.bool t_78.2)
      refine EndE.some_ rfl ?_
      intro v_444 hF_443; obtain rfl : .bool (!t_78.2) = v_444 := Eq.symm hF_443
      replace S := S.put (by decide : 69 < 119) (.bool (!t_78.2))
      refine EndE.some_ rfl ?_
      intro v_446 hF_445; obtain rfl : .bool (!t_78.2) = v_446 := Eq.symm hF_445
      replace S := S.put (by decide : 70 < 119) (.bool (!t_78.2))
      refine EndE.some_ rfl ?_
      intro v_447 _
      replace S := S.put (by decide : 71 < 119) (v_447)
      refine EndE.some_ rfl ?_
      intro v_448 _
      replace S := S.put (by decide : 72 < 119) (v_448)
      refine EndE.some_ rfl ?_
      intro v_449 _
      replace S := S.put (by decide : 73 < 119) (v_449)
      refine EndE.some_ rfl ?_
      intro v_450 _
      replace S := S.put (by decide : 74 < 119) (v_450)
      refine EndE.some_ rfl ?_
      intro v_451 _
      replace S := S.put (by decide : 75 < 119) (v_451)
      refine EndE.some_ rfl ?_
      intro v_452 _
      replace S := S.put (by decide : 76 < 119) (v_452)
      refine EndE.some_ rfl ?_
      intro v_453 _
      replace S := S.put (by decide : 77 < 119) (v_453)
      refine EndE.some_ rfl ?_
      intro v_454 _
      replace S := S.put (by decide : 78 < 119) (v_454)
      refine EndE.some_ rfl ?_
      intro v_455 _
      replace S := S.put (by decide : 79 < 119) (v_455)
      refine EndE.some_ rfl ?_
      intro v_457 hF_456; obtain rfl : .bool q_91 = v_457 := Eq.symm hF_456
      replace S := S.put (by decide : 80 < 119) (.bool q_91)
      refine EndE.some_ rfl ?_
      intro v_459 hF_458; obtain rfl : .bool q_91 = v_459 := Eq.symm hF_458
      replace S := S.put (by decide : 81 < 119) (.bool q_91)
      refine EndE.some_ rfl ?_
      intro v_460 _
      replace S := S.put (by decide : 82 < 119) (v_460)
      refine EndE.some_ rfl ?_
      intro v_461 _
      replace S := S.put (by decide : 83 < 119) (v_461)
      refine EndE.some_ rfl ?_
      intro v_462 _
      replace S := S.put (by decide : 84 < 119) (v_462)
      refine EndE.some_ rfl ?_
      intro v_463 _
      replace S := S.put (by decide : 85 < 119) (v_463)
      refine EndE.some_ rfl ?_
      intro v_464 _
      replace S := S.put (by decide : 86 < 119) (v_464)
      refine EndE.some_ rfl ?_
      intro v_465 _
      replace S := S.put (by decide : 87 < 119) (v_465)
      refine EndE.some_ rfl ?_
      intro v_466 _
      replace S := S.put (by decide : 88 < 119) (v_466)
      refine EndE.some_ rfl ?_
      intro v_467 _
      replace S := S.put (by decide : 89 < 119) (v_467)
      refine EndE.some_ rfl ?_
      intro v_469 hF_468; obtain rfl : .bool q_106 = v_469 := Eq.symm hF_468
      replace S := S.put (by decide : 90 < 119) (.bool q_106)
      refine EndE.some_ rfl ?_
      intro v_471 hF_470; obtain rfl : .bool q_106 = v_471 := Eq.symm hF_470
      replace S := S.put (by decide : 91 < 119) (.bool q_106)
      refine EndE.some_ rfl ?_
      intro v_472 _
      replace S := S.put (by decide : 92 < 119) (v_472)
      refine EndE.some_ rfl ?_
      intro v_473 _
      replace S := S.put (by decide : 93 < 119) (v_473)
      refine EndE.some_ rfl ?_
      intro v_474 _
      replace S := S.put (by decide : 94 < 119) (v_474)
      refine EndE.some_ rfl ?_
      intro v_475 _
      replace S := S.put (by decide : 95 < 119) (v_475)
      refine EndE.some_ rfl ?_
      intro v_476 _
      replace S := S.put (by decide : 96 < 119) (v_476)
      refine EndE.some_ rfl ?_
      intro v_477 _
      replace S := S.put (by decide : 97 < 119) (v_477)
      refine EndE.some_ rfl ?_
      intro v_478 _
      replace S := S.put (by decide : 98 < 119) (v_478)
      refine EndE.some_ rfl ?_
      intro v_479 _
      replace S := S.put (by decide : 99 < 119) (v_479)
      refine EndE.some_ rfl ?_
      intro v_481 hF_480; obtain rfl : .bool q_116 = v_481 := Eq.symm hF_480
      replace S := S.put (by decide : 100 < 119) (.bool q_116)
      refine endE_nil S ?_; clear S; intro a S
      replace R_7 := R_7.step hb_440
      replace R0 := R0.step hb_440
      replace B_2 := B_2.step hb_440
      replace B_18 := B_18.step hb_440
      replace B_86 := B_86.step hb_440
      replace W := W.step hb_440
      refine then_n ?_
      replace S := S.sub (l' := [(100, .bool q_116), (11, .int .i64 c_62), (5, v_6), (0, v0)]) (by exact ⟨rfl, rfl, rfl, rfl, trivial⟩)
      refine wp_cond_split (S.eval (show ev _ _ = some (.bool q_116) from rfl)) ?_ ?_
      ·intro hc
       rw [if_pos hc] at hl_69
       refine wp_seq ?_
       refine wp_region_lit ?_
       refine wl_pureK (l' := [(4, .bool false)]) S tys tys_ok 1 [4] (by kernel_rfl) ?_
       clear S; intro a S
       refine wpList_nil ?_
       refine then_n ?_
       refine wp_ret ?_
       refine blk_r ?_
       refine then_r ?_
       refine then_r ?_
       refine blk_r ?_
       refine then_r ?_
       refine then_r ?_
       obtain rfl := Option.some.inj hl_69
       obtain rfl := lr_inr h
       exact b_ret1 S rfl rfl ⟨_, rfl, RepV.mkBool, W.below⟩
      ·intro hc
       rw [if_neg (Bool.eq_false_iff.1 hc)] at hl_69
       refine wp_skip ?_
       refine blk_n ?_
       refine then_n ?_
       replace S := S.sub (l' := [(11, .int .i64 c_62), (5, v_6), (0, v0)]) (by exact ⟨rfl, rfl, rfl, trivial⟩)
       refine wp_region_lit ?_
       refine wl_pure (l' := [(56, .int .i64 c_62), (11, .int .i64 c_62), (5, v_6), (0, v0)]) S tys tys_ok 1 (by kernel_rfl) ?_
       clear S; intro a S
       obtain ⟨x_482, ex_482, hl_69⟩ := bindS hl_69
       refine w_go S rfl (op_arith S .i64 (c_62 + 1) rfl (.inl rfl) rfl rfl rfl rfl ex_482 ?_)
       clear S; intro a S
       refine wl_pure (l' := [(11, .int .i64 x_482), (57, .int .i64 x_482), (56, .int .i64 c_62), (11, .int .i64 c_62), (5, v_6), (0, v0)]) S tys tys_ok 1 (by kernel_rfl) ?_
       clear S; intro a S
       refine wpList_nil ?_
       refine then_n ?_
       exact ⟨x_482, ⟨S.sub (by exact ⟨rfl, rfl, rfl, trivial⟩), (W.drop 1), (ckI_some ex_482).2.1, (R_7.drop 1), (R0.drop 1), (B_2.drop 1), (B_18.drop 1), hl_69⟩⟩
     ·intro hc
      rw [if_neg (Bool.eq_false_iff.1 hc)] at hl_69
      refine wp_exit ?_
      refine then_x ?_
      refine then_x ?_
      refine blk_hit ?_
      refine then_n ?_
      obtain rfl := Option.some.inj hl_69
      exact ⟨_, rfl, ⟨S.sub (by exact ⟨rfl, rfl, trivial⟩), W, R0, R_7, B_2, B_18⟩⟩
  clear S W; rintro a w_483 ⟨s_67, rfl, S, W, R0, R_7, B_2, B_18⟩
  replace h := lr_inl h; try dsimp only at h
  refine then_n ?_
  refine wp_seq ?_
  refine wp_region_lit ?_
  refine wl_pure (l' := [(102, v_6), (0, v0), (5, v_6)]) S tys tys_ok 1 (by kernel_rfl) ?_
  clear S; intro a S
  refine w_go S rfl (op_buildSlice (K := K) (e := (.int .u8)) (vs := [.int .u8 7, .int .u8 7]) (xs := [7, 7]) S W rfl ty25 rfl rfl (by kernel_rfl) rfl rfl rfl rfl rfl ⟨(RepV.mkInt (by decide)), (RepV.mkInt (by decide)), trivial⟩ ?_)
  clear S; intro a w_487 v_484 hb_486 R_485 S
  replace R0 := R0.step hb_486
  replace R_7 := R_7.step hb_486
  replace B_2 := B_2.step hb_486
  replace B_18 := B_18.step hb_486
  replace W := W.step hb_486
  obtain ⟨t_488, et_488, h⟩ := bindS h
  refine w_go S rfl (op_call (vs := [v_6, v_484]) S rfl cb16 rfl rfl rfl (c16 (Kx K w.heap.size [v_26.ownBlock, some b_17, some b_1]) n w_487 t_5 _ R_7 (⟨[7, 7], some 2⟩ : Sl (Int)) _ R_485 et_488) ?_)
  rintro _ w_494 ⟨v_489, v_490, rfl, R_491, R_492, hb_493⟩; refine ⟨_, rfl, ?_⟩
  replace R_491 := RepV.back R_491 W
  replace R_492 := RepV.back R_492 W
  clear S; intro a S
  replace R0 := R0.step hb_493
  replace R_7 := R_7.step hb_493
  replace R_485 := R_485.step hb_493
  replace B_2 := B_2.step hb_493
  replace B_18 := B_18.step hb_493
  replace W := W.step hb_493
  obtain rfl := RepV.bool R_492
  refine wl_pureK (l' := [(106, .bool t_488.2), (105, v_489), (0, v0), (5, v_6)]) S tys tys_ok 3 [106, 105, 0, 5] (by kernel_rfl) ?_
  clear S; intro a S
  refine w_go S rfl (op_alloc (K := K) (n := w.heap.size) (L := [v_26.ownBlock, some b_17, some b_1]) (t := gt0) (y := (⟨[], some 0⟩, 0, 0)) S rfl rfl rfl _ z33 (fun w K => ⟨[.slice .none 0 0], [.int .u8 0, .int .u8 0], rfl, ⟨.none, 0, 0, rfl, rfl, Nat.le_refl _, by decide, fun k h => Option.some.inj h, .inl rfl⟩, ⟨[.int .u8 0], [.int .u8 0], rfl, ⟨rfl, by decide⟩, ⟨rfl, by decide⟩⟩⟩) ?_)
  clear S; intro a w_497 b_495 hb_498 B_496 S
  replace R0 := R0.box hb_498
  replace R_7 := R_7.box hb_498
  replace R_491 := R_491.box hb_498
  replace B_2 := B_2.box hb_498
  replace B_18 := B_18.box hb_498
  replace W := W.box hb_498
  refine w_go S rfl (op_store (t' := gt0) S rfl rfl ty33 rfl rfl rfl B_496 (by simp) Ln.whole R_491 ?_)
  intro w_499 hw_500 B_
  replace R0 := R0.wrote hw_500 (by simp)
  replace R_7 := R_7.wrote hw_500 (by simp)
  replace R_491 := R_491.wrote hw_500 (by simp)
  replace B_2 := B_2.wrote hw_500 (by simp) (W.bne (p := 3) (q := 0) (by decide) rfl rfl)
  replace B_18 := B_18.wrote hw_500 (by simp) (W.bne (p := 2) (q := 0) (by decide) rfl rfl)
  replace W := W.wrote hw_500 (by simp)
  replace B_496 : Bx gt0 33 w_499 (Kx K w.heap.size [some b_495, v_26.ownBlock, some b_17, some b_1]) b_495 t_488.1 := B_; clear B_
  refine wl_pureK (l' := [(15, .bool t_488.2), (0, v0), (5, v_6)]) S tys tys_ok 1 [15, 0, 5] (by kernel_rfl) ?_
  clear S; intro a S
  refine wpList_nil ?_
  refine then_n ?_
  refine wp_seq ?_
  refine wp_region_lit ?_
  refine wl_pure (l' := [(107, v0), (15, .bool t_488.2), (0, v0), (5, v_6)]) S tys tys_ok 1 (by kernel_rfl) ?_
  clear S; intro a S
  obtain ⟨t_501, et_501, h⟩ := bindS h
  refine w_go S rfl (op_call (vs := [v0]) S rfl cb12 rfl rfl rfl (c12 (Kx K w.heap.size [some b_495, v_26.ownBlock, some b_17, some b_1]) n w_499 x0 _ R0 et_501) ?_)
  rintro _ w_505 ⟨v_502, rfl, R_503, hb_504⟩; refine ⟨_, rfl, ?_⟩
  replace R_503 := RepV.back R_503 W
  clear S; intro a S
  replace R0 := R0.step hb_504
  replace R_7 := R_7.step hb_504
  replace B_2 := B_2.step hb_504
  replace B_18 := B_18.step hb_504
  replace B_496 := B_496.step hb_504
  replace W := W.step hb_504
  refine wl_pureK (l' := [(16, v_502), (15, .bool t_488.2), (5, v_6)]) S tys tys_ok 1 [16, 15, 5] (by kernel_rfl) ?_
  clear S; intro a S
  refine wpList_nil ?_
  refine then_n ?_
  refine wp_seq ?_
  refine wp_region_lit ?_
  refine wl_pureK (l' := [(111, .bool (!t_488.2)), (16, v_502), (5, v_6)]) S tys tys_ok 3 [111, 16, 5] (by kernel_rfl) ?_
  clear S; intro a S
  obtain ⟨q_506, eq_506, h⟩ := bindS h
  refine seg 4 (fun a_ w_ => St 119 a_ [(115, .bool q_506)] ∧ Wd w w_ [some b_495, v_26.ownBlock, some b_17, some b_1] ∧ Bx gt1 40 w_ (Kx K w.heap.size [some b_495, v_26.ownBlock, some b_17, some b_1]) b_1 x1 ∧ Bx gt2 31 w_ (Kx K w.heap.size [some b_495, v_26.ownBlock, some b_17, some b_1]) b_17 t_12 ∧ Bx gt0 33 w_ (Kx K w.heap.size [some b_495, v_26.ownBlock, some b_17, some b_1]) b_495 t_488.1) ?_ ?_
  ·by_cases hc : (!t_488.2) = true
   ·rw [if_pos hc] at eq_506; rw [hc] at S
    refine wl_pure (l' := [(113, v_502), (112, v_6), (111, .bool true), (16, v_502), (5, v_6)]) S tys tys_ok 2 (by kernel_rfl) ?_
    clear S; intro a S
    obtain ⟨t_507, et_507, eq_506⟩ := bindS eq_506
    refine w_go S rfl (op_call (vs := [v_6, v_502]) S rfl cb18 rfl rfl rfl (c18 (Kx K w.heap.size [some b_495, v_26.ownBlock, some b_17, some b_1]) n w_505 t_5 _ R_7 t_501 _ R_503 et_507) ?_)
    rintro _ w_511 ⟨v_508, rfl, R_509, hb_510⟩; refine ⟨_, rfl, ?_⟩
    replace R_509 := RepV.back R_509 W
    clear S; intro a S
    replace R_7 := R_7.step hb_510
    replace R_503 := R_503.step hb_510
    replace B_2 := B_2.step hb_510
    replace B_18 := B_18.step hb_510
    replace B_496 := B_496.step hb_510
    replace W := W.step hb_510
    obtain rfl := RepV.bool R_509
    refine wl_pureK (l' := [(115, .bool t_507)]) S tys tys_ok 1 [115] (by kernel_rfl) ?_
    clear S; intro a S
    obtain rfl := Option.some.inj eq_506
    exact ⟨S.sub (by exact ⟨rfl, trivial⟩), W, B_2, B_18, B_496⟩
   ·rw [if_neg hc] at eq_506; rw [show (!t_488.2) = false from Bool.eq_false_iff.2 hc] at S
    refine wl_pureK (l' := [(115, .bool false)]) S tys tys_ok 4 [115] (by kernel_rfl) ?_
    clear S; intro a S
    obtain rfl := Option.some.inj eq_506
    exact ⟨S.sub (by exact ⟨rfl, trivial⟩), W, B_2, B_18, B_496⟩
  clear S W eq_506; rintro a w_512 ⟨S, W, B_2, B_18, B_496⟩
  refine wl_pure (l' := [(116, .bool q_506), (115, .bool q_506)]) S tys tys_ok 1 (by kernel_rfl) ?_
  clear S; intro a S
  obtain ⟨q_513, eq_513, h⟩ := bindS h
  refine seg 2 (fun a_ w_ => St 119 a_ [(118, .bool q_513)] ∧ Wd w w_ [some b_495, v_26.ownBlock, some b_17, some b_1] ∧ Bx gt1 40 w_ (Kx K w.heap.size [some b_495, v_26.ownBlock, some b_17, some b_1]) b_1 x1 ∧ Bx gt2 31 w_ (Kx K w.heap.size [some b_495, v_26.ownBlock, some b_17, some b_1]) b_17 t_12 ∧ Bx gt0 33 w_ (Kx K w.heap.size [some b_495, v_26.ownBlock, some b_17, some b_1]) b_495 t_488.1) ?_ ?_
  ·by_cases hc : q_506 = true
   ·rw [if_pos hc] at eq_513; rw [hc] at S
    obtain ⟨t_514, et_514, eq_513⟩ := bindS eq_513
    refine w_go S rfl (op_call (vs := []) S rfl cb11 rfl rfl rfl (c11 (Kx K w.heap.size [some b_495, v_26.ownBlock, some b_17, some b_1]) n w_512  et_514) ?_)
    rintro _ w_518 ⟨v_515, rfl, R_516, hb_517⟩; refine ⟨_, rfl, ?_⟩
    replace R_516 := RepV.back R_516 W
    clear S; intro a S
    replace B_2 := B_2.step hb_517
    replace B_18 := B_18.step hb_517
    replace B_496 := B_496.step hb_517
    replace W := W.step hb_517
    obtain rfl := RepV.bool R_516
    refine wl_pureK (l' := [(118, .bool t_514)]) S tys tys_ok 1 [118] (by kernel_rfl) ?_
    clear S; intro a S
    obtain rfl := Option.some.inj eq_513
    exact ⟨S.sub (by exact ⟨rfl, trivial⟩), W, B_2, B_18, B_496⟩
   ·rw [if_neg hc] at eq_513; rw [show q_506 = false from Bool.eq_false_iff.2 hc] at S
    refine wl_pureK (l' := [(118, .bool false)]) S tys tys_ok 2 [118] (by kernel_rfl) ?_
    clear S; intro a S
    obtain rfl := Option.some.inj eq_513
    exact ⟨S.sub (by exact ⟨rfl, trivial⟩), W, B_2, B_18, B_496⟩
  clear S W eq_513; rintro a w_519 ⟨S, W, B_2, B_18, B_496⟩
  refine wl_pure (l' := [(4, .bool q_513), (118, .bool q_513)]) S tys tys_ok 1 (by kernel_rfl) ?_
  clear S; intro a S
  refine wpList_nil ?_
  refine then_n ?_
  replace S := S.sub (l' := [(4, .bool q_513)]) (by exact ⟨rfl, trivial⟩)
  refine wp_ret ?_
  obtain rfl := Option.some.inj h
  exact b_ret1 S rfl rfl ⟨_, rfl, RepV.mkBool, W.below⟩

end Go.Proofs.Ytmcpcdmonglkjaa
