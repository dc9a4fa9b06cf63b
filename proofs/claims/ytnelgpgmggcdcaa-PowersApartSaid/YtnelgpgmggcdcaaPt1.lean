/- Functions of the program, as plain data. -/
import Derived.Test.YtnelgpgmggcdcaaP3
set_option linter.unusedVariables false
set_option linter.unusedSimpArgs false
namespace Go.Proofs.Ytnelgpgmggcdcaa
open Go.RowKit

def p8_l1 (n : Nat) (t_1 : (Sl (Int × Int × Bool × Bool × Bool × Bool × Int))) : Nat → (Int) → (List (Int)) → Option ((List (Int)))
  | 0, _, _ => .none
  | m + 1, c_259, c_261 => (idx (⟨t_1.xs, t_1.cap⟩ : Sl (Int × Int × Bool × Bool × Bool × Bool × Int)).xs c_259).bind fun y_269 => (if (decide (y_269.1 ≥ 0)) = true then (idx (⟨t_1.xs, t_1.cap⟩ : Sl (Int × Int × Bool × Bool × Bool × Bool × Int)).xs c_259).bind fun y_276 => (idx (⟨t_1.xs, t_1.cap⟩ : Sl (Int × Int × Bool × Bool × Bool × Bool × Int)).xs y_276.1).bind fun y_282 => some (!y_282.2.2.2.1) else some false).bind fun q_275 => if q_275 then ((idx (⟨t_1.xs, t_1.cap⟩ : Sl (Int × Int × Bool × Bool × Bool × Bool × Int)).xs c_259).bind fun y_288 => (idx c_261 y_288.1).bind fun y_294 => p8_l1 n t_1 m y_288.1 (c_261.set y_288.1.toNat 1)) else some c_261
def p8_l2 (n : Nat) (t_1 : (Sl (Int × Int × Bool × Bool × Bool × Bool × Int))) (t_33 : (Sl (Int)) × (Int)) (t_41 : (Sl (Int)) × (Int)) (x_67 : Int) (y_265 : (List (Int))) : Nat → (Int) → Option ((Unit) ⊕ ((Bool)))
  | 0, _ => .none
  | m + 1, c_298 => if (decide (c_298 < (lenI (⟨t_1.xs, t_1.cap⟩ : Sl (Int × Int × Bool × Bool × Bool × Bool × Int))))) then ((idx t_41.1.xs c_298).bind fun y_308 => (idx t_33.1.xs c_298).bind fun y_314 => (ckI .i64 (y_308 - y_314)).bind fun x_320 => (idx y_265 c_298).bind fun y_321 => (ckI .i64 (x_67 * y_321)).bind fun x_324 => if (x_320 != x_324) then (some (.inr false)) else (ckI .i64 (c_298 + 1)).bind fun x_409 => p8_l2 n t_1 t_33 t_41 x_67 y_265 m x_409) else some (.inl ())
def p8 (n : Nat) (x0 : Sl (Int × Int × Int × Int)) (x1 : Int) (x2 : Int) : Option ((Bool)) :=
  (p9 n x0).bind fun t_1 =>
  if ((lenI (⟨t_1.xs, t_1.cap⟩ : Sl (Int × Int × Bool × Bool × Bool × Bool × Int))) == 0) then ((p19 n).bind fun t_7 => some t_7) else (remI .i64 x1 (lenI (⟨t_1.xs, t_1.cap⟩ : Sl (Int × Int × Bool × Bool × Bool × Bool × Int)))).bind fun x_13 => (appI ([] : List (Int × Int × Bool × Bool × Bool × Bool × Int)) t_1.xs).bind fun l_19 => (remI .i64 x2 501).bind fun x_24 => (idx l_19 x_13).bind fun y_25 => (p14 n (⟨t_1.xs, t_1.cap⟩ : Sl (Int × Int × Bool × Bool × Bool × Bool × Int))).bind fun t_33 => (p14 n (⟨(l_19.set x_13.toNat (y_25.1, y_25.2.1, y_25.2.2.1, y_25.2.2.2.1, y_25.2.2.2.2.1, y_25.2.2.2.2.2.1, x_24)), capA (some 0) l_19.length⟩ : Sl (Int × Int × Bool × Bool × Bool × Bool × Int))).bind fun t_41 => (if (t_33.2 != 0) = false then some (t_41.2 != 0) else some true).bind fun q_48 => (if q_48 = false then some ((lenI (⟨t_33.1.xs, t_33.1.cap⟩ : Sl (Int))) != (lenI (⟨t_1.xs, t_1.cap⟩ : Sl (Int × Int × Bool × Bool × Bool × Bool × Int)))) else some true).bind fun q_49 => (if q_49 = false then some ((lenI (⟨t_41.1.xs, t_41.1.cap⟩ : Sl (Int))) != (lenI (⟨t_1.xs, t_1.cap⟩ : Sl (Int × Int × Bool × Bool × Bool × Bool × Int)))) else some true).bind fun q_52 => if q_52 then (some false) else (idx t_41.1.xs x_13).bind fun y_55 => (idx t_33.1.xs x_13).bind fun y_61 => (ckI .i64 (y_55 - y_61)).bind fun x_67 => (idx (⟨t_1.xs, t_1.cap⟩ : Sl (Int × Int × Bool × Bool × Bool × Bool × Int)).xs x_13).bind fun y_130 => (if y_130.2.2.2.2.2.1 = false then (idx (⟨t_1.xs, t_1.cap⟩ : Sl (Int × Int × Bool × Bool × Bool × Bool × Int)).xs x_13).bind fun y_137 => some (!y_137.2.2.2.2.1) else some true).bind fun q_136 => (if q_136 = false then (p26 n (⟨t_1.xs, t_1.cap⟩ : Sl (Int × Int × Bool × Bool × Bool × Bool × Int)) x_13).bind fun t_144 => some (t_144 == 0) else some true).bind fun q_143 => (if q_143 then (if (x_67 != 0) then (some (.inr false)) else some (.inl ())) else (idx (⟨(l_19.set x_13.toNat (y_25.1, y_25.2.1, y_25.2.2.1, y_25.2.2.2.1, y_25.2.2.2.2.1, y_25.2.2.2.2.2.1, x_24)), capA (some 0) l_19.length⟩ : Sl (Int × Int × Bool × Bool × Bool × Bool × Int)).xs x_13).bind fun y_152 => (idx (⟨t_1.xs, t_1.cap⟩ : Sl (Int × Int × Bool × Bool × Bool × Bool × Int)).xs x_13).bind fun y_158 => (ckI .i64 (y_152.2.2.2.2.2.2 - y_158.2.2.2.2.2.2)).bind fun x_164 => if (x_67 != x_164) then (some (.inr false)) else some (.inl ())).bind fun (j_150 : (Unit) ⊕ ((Bool))) => lrK j_150 some fun (s_151 : Unit) => (idx (List.replicate 128 (0 : Int)) x_13).bind fun y_256 => (p8_l1 n t_1 n x_13 ((List.replicate 128 (0 : Int)).set x_13.toNat 1)).bind fun (y_265 : (List (Int))) => (p8_l2 n t_1 t_33 t_41 x_67 y_265 n 0).bind fun (y_302 : (Unit) ⊕ ((Bool))) => lrK y_302 some fun (s_303 : Unit) => (p19 n).bind fun t_411 => some t_411
set_option maxHeartbeats 4000000 in
set_option maxRecDepth 100000 in
/-- plugboard/plugboardlaw19.PowersApart -/
theorem c8 (K : Nat → Prop) (n : Nat) (w : World) (x0 : Sl (Int × Int × Int × Int)) (v0 : Value) (R0 : RepV (.sl gt0) w K v0 x0) (x1 : Int) (G1 : InR .u8 x1) (x2 : Int) (G2 : InR .u16 x2) {r : (Bool)} (h : p8 n x0 x1 x2 = some r) :
    Calls Try.prog 8 #[v0, .int .u8 x1, .int .u16 x2] w (Ret1 .bool w (Kx K w.heap.size []) r) := by
  refine enter (args := [v0, .int .u8 x1, .int .u16 x2]) Try.func8 rfl 162 rfl rfl fun a S => ?_
  have W := Wd.start w
  replace R0 := R0.arg
  unfold p8 at h
  replace S : St 162 a [(0, v0), (1, .int .u8 x1), (2, .int .u16 x2)] := S
  refine wp_seq ?_
  refine wp_region_lit ?_
  refine wl_pure (l' := [(6, .bool false), (0, v0), (1, .int .u8 x1), (2, .int .u16 x2)]) S tys tys_ok 1 (by kernel_rfl) ?_
  clear S; intro a S
  refine wpList_nil ?_
  refine then_n ?_
  replace S := S.sub (l' := [(0, v0), (1, .int .u8 x1), (2, .int .u16 x2)]) (by exact ⟨rfl, rfl, rfl, trivial⟩)
  refine wp_seq ?_
  refine wp_region_lit ?_
  refine wl_pure (l' := [(18, v0), (0, v0), (1, .int .u8 x1), (2, .int .u16 x2)]) S tys tys_ok 1 (by kernel_rfl) ?_
  clear S; intro a S
  obtain ⟨t_1, et_1, h⟩ := bindS h
  refine w_go S rfl (op_call (vs := [v0]) S rfl cb9 rfl rfl rfl (c9 (Kx K w.heap.size []) n w x0 _ R0 et_1) ?_)
  rintro _ w_5 ⟨v_2, rfl, R_3, hb_4⟩; refine ⟨_, rfl, ?_⟩
  have NO_ := newO_of R_3 (Nat.le_refl _) hb_4
  replace R_3 := Ow.backO R_3 W
  clear S; intro a S
  replace R0 := R0.newO NO_
  replace W := W.newO NO_
  clear NO_
  refine wl_pureK (l' := [(7, v_2), (1, .int .u8 x1), (2, .int .u16 x2)]) S tys tys_ok 1 [7, 1, 2] (by kernel_rfl) ?_
  clear S; intro a S
  refine wpList_nil ?_
  refine then_n ?_
  refine wp_seq ?_
  refine wp_seq ?_
  refine wp_region_lit ?_
  refine wl_pure (l' := [(20, v_2), (7, v_2), (1, .int .u8 x1), (2, .int .u16 x2)]) S tys tys_ok 1 (by kernel_rfl) ?_
  clear S; intro a S
  refine w_go S rfl (op_len (K := _) S rfl ty24 rfl rfl rfl R_3.read ?_)
  clear S; intro a G_6 S
  refine wl_pure (l' := [(22, .bool ((lenI (⟨t_1.xs, t_1.cap⟩ : Sl (Int × Int × Bool × Bool × Bool × Bool × Int))) == 0)), (21, .int .i64 (lenI (⟨t_1.xs, t_1.cap⟩ : Sl (Int × Int × Bool × Bool × Bool × Bool × Int)))), (20, v_2), (7, v_2), (1, .int .u8 x1), (2, .int .u16 x2)]) S tys tys_ok 1 (by kernel_rfl) ?_
  clear S; intro a S
  refine wpList_nil ?_
  refine then_n ?_
  replace S := S.sub (l' := [(22, .bool ((lenI (⟨t_1.xs, t_1.cap⟩ : Sl (Int × Int × Bool × Bool × Bool × Bool × Int))) == 0)), (7, v_2), (1, .int .u8 x1), (2, .int .u16 x2)]) (by exact ⟨rfl, rfl, rfl, rfl, trivial⟩)
  refine wp_cond_split (S.eval (show ev _ _ = some (.bool ((lenI (⟨t_1.xs, t_1.cap⟩ : Sl (Int × Int × Bool × Bool × Bool × Bool × Int))) == 0)) from rfl)) ?_ ?_
  · intro hc
    rw [if_pos hc] at h
    refine wp_seq ?_
    refine wp_region_lit ?_
    obtain ⟨t_7, et_7, h⟩ := bindS h
    refine w_go S rfl (op_call (vs := []) S rfl cb19 rfl rfl rfl (c19 (Kx K w.heap.size [v_2.ownBlock]) n w_5  et_7) ?_)
    rintro _ w_11 ⟨v_8, rfl, R_9, hb_10⟩; refine ⟨_, rfl, ?_⟩
    replace R_9 := RepV.back R_9 W
    clear S; intro a S
    replace R_3 := R_3.step hb_10
    replace W := W.step hb_10
    obtain rfl := RepV.bool R_9
    refine wl_pureK (l' := [(6, .bool t_7)]) S tys tys_ok 1 [6] (by kernel_rfl) ?_
    clear S; intro a S
    refine wpList_nil ?_
    refine then_n ?_
    refine wp_ret ?_
    refine then_r ?_
    obtain rfl := Option.some.inj h
    exact b_ret1 S rfl rfl ⟨_, rfl, RepV.mkBool, W.below⟩
  · intro hc
    rw [if_neg (Bool.eq_false_iff.1 hc)] at h
    refine wp_skip ?_
    refine then_n ?_
    replace S := S.sub (l' := [(7, v_2), (1, .int .u8 x1), (2, .int .u16 x2)]) (by exact ⟨rfl, rfl, rfl, trivial⟩)
    refine wp_seq ?_
    refine wp_region_lit ?_
    refine wl_pure (l' := [(24, .int .u8 x1), (7, v_2), (1, .int .u8 x1), (2, .int .u16 x2)]) S tys tys_ok 1 (by kernel_rfl) ?_
    clear S; intro a S
    refine w_go S rfl (op_conv S .i64 .bool .bool rfl ty5 ty3 rfl rfl rfl (widen G1 (by decide)).1 ?_)
    clear S; intro a S
    refine wl_pure (l' := [(26, v_2), (25, .int .i64 x1), (24, .int .u8 x1), (7, v_2), (1, .int .u8 x1), (2, .int .u16 x2)]) S tys tys_ok 1 (by kernel_rfl) ?_
    clear S; intro a S
    refine w_go S rfl (op_len (K := _) S rfl ty24 rfl rfl rfl R_3.read ?_)
    clear S; intro a G_12 S
    obtain ⟨x_13, ex_13, h⟩ := bindS h
    refine w_go S rfl (op_rem S .i64 rfl rfl rfl rfl rfl ex_13 ?_)
    clear S; intro a S
    refine wl_pureK (l' := [(8, .int .i64 x_13), (7, v_2), (2, .int .u16 x2)]) S tys tys_ok 1 [8, 7, 2] (by kernel_rfl) ?_
    clear S; intro a S
    refine wpList_nil ?_
    refine then_n ?_
    refine wp_seq ?_
    refine wp_region_lit ?_
    refine w_go S rfl (op_row0 (K := K) (e := gt1) (E := 32) S W rfl ty24 un24 rfl rfl ?_)
    clear S; intro a w_15 b_14 hb_16 O_17 S
    replace R_3 := R_3.box hb_16
    replace W := W.box hb_16
    replace O_17 : Ow gt1 32 w_15 w.heap.size (Kx K w.heap.size [some b_14, v_2.ownBlock]) (.slice (some ⟨b_14, 0, .none⟩) 0 0) ([] : List (Int × Int × Bool × Bool × Bool × Bool × Int)) (some 0) := O_17
    refine wl_pure (l' := [(30, v_2), (29, (.slice (some ⟨b_14, 0, .none⟩) 0 0)), (8, .int .i64 x_13), (7, v_2), (2, .int .u16 x2)]) S tys tys_ok 1 (by kernel_rfl) ?_
    clear S; intro a S
    have R_18 : RepV (.sl gt1) w_15 (Kx K w.heap.size [some b_14]) v_2 (⟨t_1.xs, t_1.cap⟩ : Sl (Int × Int × Bool × Bool × Bool × Bool × Int)) := R_3.pubAt W 1 rfl
    replace O_17 : Ow gt1 32 w_15 w.heap.size (Kx K w.heap.size [some b_14]) (.slice (some ⟨b_14, 0, .none⟩) 0 0) ([] : List (Int × Int × Bool × Bool × Bool × Bool × Int)) (some 0) := O_17.lessAt 1
    replace W : Wd w w_15 [some b_14] := W.lessAt 1
    obtain ⟨l_19, el_19, h⟩ := bindS h
    refine w_go S rfl (op_append S W (E := 32) 0 rfl ty24 un24 by24 rfl rfl rfl rfl O_17 rfl R_18 el_19 ?_)
    clear S; intro a w_21 v_20 A_22 O_23 S
    replace R_18 : RepV (.sl gt1) w_21 (Kx K w.heap.size [v_20.ownBlock]) v_2 (⟨t_1.xs, t_1.cap⟩ : Sl (Int × Int × Bool × Bool × Bool × Bool × Int)) := R_18.apd A_22 (i := 0) rfl
    replace W : Wd w w_21 [v_20.ownBlock] := W.apd A_22 (i := 0) rfl
    replace O_23 : Ow gt1 32 w_21 w.heap.size (Kx K w.heap.size [v_20.ownBlock]) v_20 l_19 (capA (some 0) l_19.length) := O_23
    refine wl_pureK (l' := [(9, v_20), (8, .int .i64 x_13), (7, v_2), (2, .int .u16 x2)]) S tys tys_ok 1 [9, 8, 7, 2] (by kernel_rfl) ?_
    clear S; intro a S
    refine wpList_nil ?_
    refine then_n ?_
    refine wp_seq ?_
    refine wp_region_lit ?_
    refine wl_pure (l' := [(34, .int .u16 x2), (33, .int .i64 x_13), (32, v_20), (9, v_20), (8, .int .i64 x_13), (7, v_2), (2, .int .u16 x2)]) S tys tys_ok 3 (by kernel_rfl) ?_
    clear S; intro a S
    refine w_go S rfl (op_conv S .i64 .bool .bool rfl ty48 ty3 rfl rfl rfl (widen G2 (by decide)).1 ?_)
    clear S; intro a S
    obtain ⟨x_24, ex_24, h⟩ := bindS h
    refine w_go S rfl (op_rem S .i64 rfl rfl rfl rfl rfl ex_24 ?_)
    clear S; intro a S
    obtain ⟨y_25, ey_25, h⟩ := bindS h
    refine w_go S rfl (op_indexAddr_own S rfl ty24 rfl rfl rfl O_23 rfl ey_25 ?_)
    clear S; intro a g_26 H_28 R_27 S
    refine wl_pureK (l' := [(38, .pointer (some ((⟨g_26, x_13.toNat * GT.sz gt1, .none⟩ : Addr).add (coff gf1 6)))), (36, .int .i64 x_24), (9, v_20), (8, .int .i64 x_13), (7, v_2)]) S tys tys_ok 1 [38, 36, 9, 8, 7] (by kernel_rfl) ?_
    clear S; intro a S
    refine w_go S rfl (op_store_own (t' := (.int .i64)) S rfl rfl ty3 rfl (addr_add _ _ _) rfl O_23 H_28 0 rfl (idx_some ey_25).2.1 (Ln.st (Ln.comp 6)) ((RepV.mkInt (inR_rem ex_24)) : RepV (.int .i64) w_21 (Kx K w.heap.size [v_20.ownBlock]) _ x_24) ?_)
    intro w_29 hw_30 hm_32 O_31
    replace R_18 := R_18.wrote hw_30 hm_32
    replace W := W.wrote hw_30 hm_32
    replace O_31 : Ow gt1 32 w_29 w.heap.size (Kx K w.heap.size [v_20.ownBlock]) v_20 (l_19.set x_13.toNat (y_25.1, y_25.2.1, y_25.2.2.1, y_25.2.2.2.1, y_25.2.2.2.2.1, y_25.2.2.2.2.2.1, x_24)) (capA (some 0) l_19.length) := O_31
    refine wpList_nil ?_
    refine then_n ?_
    replace S := S.sub (l' := [(9, v_20), (8, .int .i64 x_13), (7, v_2)]) (by exact ⟨rfl, rfl, rfl, trivial⟩)
    refine wp_seq ?_
    refine wp_region_lit ?_
    refine wl_pure (l' := [(40, v_2), (9, v_20), (8, .int .i64 x_13), (7, v_2)]) S tys tys_ok 1 (by kernel_rfl) ?_
    clear S; intro a S
    obtain ⟨t_33, et_33, h⟩ := bindS h
    refine w_go S rfl (op_call (vs := [v_2]) S rfl cb14 rfl rfl rfl (c14 (Kx K w.heap.size [v_20.ownBlock]) n w_29 (⟨t_1.xs, t_1.cap⟩ : Sl (Int × Int × Bool × Bool × Bool × Bool × Int)) _ R_18 et_33) ?_)
    rintro _ w_39 ⟨v_34, v_35, rfl, R_36, R_37, hb_38⟩; refine ⟨_, rfl, ?_⟩
    have NO_ := newO_of R_36 (Nat.le_refl _) hb_38
    replace R_36 := Ow.backO R_36 W
    replace R_37 := RepV.backO R_37 W
    clear S; intro a S
    replace R_18 := R_18.newO NO_
    replace O_31 := O_31.newO NO_
    replace W := W.newO NO_
    clear NO_
    obtain ⟨rfl, GR_37⟩ := RepV.int R_37
    refine wl_pureK (l' := [(11, .int .i64 t_33.2), (10, v_34), (9, v_20), (8, .int .i64 x_13), (7, v_2)]) S tys tys_ok 5 [11, 10, 9, 8, 7] (by kernel_rfl) ?_
    clear S; intro a S
    refine wpList_nil ?_
    refine then_n ?_
    refine wp_seq ?_
    refine wp_region_lit ?_
    refine wl_pure (l' := [(45, v_20), (11, .int .i64 t_33.2), (10, v_34), (9, v_20), (8, .int .i64 x_13), (7, v_2)]) S tys tys_ok 1 (by kernel_rfl) ?_
    clear S; intro a S
    have R_40 : RepV (.sl gt1) w_39 (Kx K w.heap.size [v_34.ownBlock]) v_20 (⟨(l_19.set x_13.toNat (y_25.1, y_25.2.1, y_25.2.2.1, y_25.2.2.2.1, y_25.2.2.2.2.1, y_25.2.2.2.2.2.1, x_24)), capA (some 0) l_19.length⟩ : Sl (Int × Int × Bool × Bool × Bool × Bool × Int)) := O_31.pubAt W 1 rfl
    replace R_18 : RepV (.sl gt1) w_39 (Kx K w.heap.size [v_34.ownBlock]) v_2 (⟨t_1.xs, t_1.cap⟩ : Sl (Int × Int × Bool × Bool × Bool × Bool × Int)) := R_18.lessAt 1
    replace R_36 : Ow (.int .i64) 3 w_39 w.heap.size (Kx K w.heap.size [v_34.ownBlock]) v_34 t_33.1.xs t_33.1.cap := R_36.lessAt 1
    replace W : Wd w w_39 [v_34.ownBlock] := W.lessAt 1
    obtain ⟨t_41, et_41, h⟩ := bindS h
    refine w_go S rfl (op_call (vs := [v_20]) S rfl cb14 rfl rfl rfl (c14 (Kx K w.heap.size [v_34.ownBlock]) n w_39 (⟨(l_19.set x_13.toNat (y_25.1, y_25.2.1, y_25.2.2.1, y_25.2.2.2.1, y_25.2.2.2.2.1, y_25.2.2.2.2.2.1, x_24)), capA (some 0) l_19.length⟩ : Sl (Int × Int × Bool × Bool × Bool × Bool × Int)) _ R_40 et_41) ?_)
    rintro _ w_47 ⟨v_42, v_43, rfl, R_44, R_45, hb_46⟩; refine ⟨_, rfl, ?_⟩
    have NO_ := newO_of R_44 (Nat.le_refl _) hb_46
    replace R_44 := Ow.backO R_44 W
    replace R_45 := RepV.backO R_45 W
    clear S; intro a S
    replace R_40 := R_40.newO NO_
    replace R_18 := R_18.newO NO_
    replace R_36 := R_36.newO NO_
    replace W := W.newO NO_
    clear NO_
    obtain ⟨rfl, GR_45⟩ := RepV.int R_45
    refine wl_pureK (l' := [(13, .int .i64 t_41.2), (12, v_42), (11, .int .i64 t_33.2), (10, v_34), (9, v_20), (8, .int .i64 x_13), (7, v_2)]) S tys tys_ok 5 [13, 12, 11, 10, 9, 8, 7] (by kernel_rfl) ?_
    clear S; intro a S
    refine wpList_nil ?_
    refine then_n ?_
    refine wp_seq ?_
    refine wp_seq ?_
    refine wp_region_lit ?_
    refine wl_pureK (l' := [(51, .bool (t_33.2 != 0)), (13, .int .i64 t_41.2), (12, v_42), (10, v_34), (9, v_20), (8, .int .i64 x_13), (7, v_2)]) S tys tys_ok 3 [51, 13, 12, 10, 9, 8, 7] (by kernel_rfl) ?_
    clear S; intro a S
    obtain ⟨q_48, eq_48, h⟩ := bindS h
    refine seg 3 (fun a_ w_ => w_47 = w_ ∧ St 162 a_ [(54, .bool q_48), (12, v_42), (10, v_34), (9, v_20), (8, .int .i64 x_13), (7, v_2)]) ?_ ?_
    · by_cases hc : (t_33.2 != 0) = false
      · rw [if_pos hc] at eq_48; rw [hc] at S
        refine wl_pureK (l' := [(54, .bool (t_41.2 != 0)), (12, v_42), (10, v_34), (9, v_20), (8, .int .i64 x_13), (7, v_2)]) S tys tys_ok 3 [54, 12, 10, 9, 8, 7] (by kernel_rfl) ?_
        clear S; intro a S
        obtain rfl := Option.some.inj eq_48
        exact ⟨rfl, S.sub (by exact ⟨rfl, rfl, rfl, rfl, rfl, rfl, trivial⟩)⟩
      · rw [if_neg hc] at eq_48; rw [show (t_33.2 != 0) = true from (by simpa using hc)] at S
        refine wl_pureK (l' := [(54, .bool true), (12, v_42), (10, v_34), (9, v_20), (8, .int .i64 x_13), (7, v_2)]) S tys tys_ok 3 [54, 12, 10, 9, 8, 7] (by kernel_rfl) ?_
        clear S; intro a S
        obtain rfl := Option.some.inj eq_48
        exact ⟨rfl, S.sub (by exact ⟨rfl, rfl, rfl, rfl, rfl, rfl, trivial⟩)⟩
    clear S eq_48; rintro a _ ⟨rfl, S⟩
    refine wl_pure (l' := [(55, .bool q_48), (54, .bool q_48), (12, v_42), (10, v_34), (9, v_20), (8, .int .i64 x_13), (7, v_2)]) S tys tys_ok 1 (by kernel_rfl) ?_
    clear S; intro a S
    obtain ⟨q_49, eq_49, h⟩ := bindS h
    refine seg 6 (fun a_ w_ => w_47 = w_ ∧ St 162 a_ [(61, .bool q_49), (12, v_42), (10, v_34), (9, v_20), (8, .int .i64 x_13), (7, v_2)]) ?_ ?_
    · by_cases hc : q_48 = false
      · rw [if_pos hc] at eq_49; rw [hc] at S
        refine wl_pure (l' := [(56, v_34), (55, .bool false), (54, .bool false), (12, v_42), (10, v_34), (9, v_20), (8, .int .i64 x_13), (7, v_2)]) S tys tys_ok 1 (by kernel_rfl) ?_
        clear S; intro a S
        refine w_go S rfl (op_len (K := _) S rfl ty27 rfl rfl rfl R_36.read ?_)
        clear S; intro a G_50 S
        refine wl_pure (l' := [(58, v_2), (57, .int .i64 (lenI (⟨t_33.1.xs, t_33.1.cap⟩ : Sl (Int)))), (56, v_34), (55, .bool false), (54, .bool false), (12, v_42), (10, v_34), (9, v_20), (8, .int .i64 x_13), (7, v_2)]) S tys tys_ok 1 (by kernel_rfl) ?_
        clear S; intro a S
        refine w_go S rfl (op_len (K := _) S rfl ty24 rfl rfl rfl R_18 ?_)
        clear S; intro a G_51 S
        refine wl_pureK (l' := [(61, .bool ((lenI (⟨t_33.1.xs, t_33.1.cap⟩ : Sl (Int))) != (lenI (⟨t_1.xs, t_1.cap⟩ : Sl (Int × Int × Bool × Bool × Bool × Bool × Int))))), (12, v_42), (10, v_34), (9, v_20), (8, .int .i64 x_13), (7, v_2)]) S tys tys_ok 2 [61, 12, 10, 9, 8, 7] (by kernel_rfl) ?_
        clear S; intro a S
        obtain rfl := Option.some.inj eq_49
        exact ⟨rfl, S.sub (by exact ⟨rfl, rfl, rfl, rfl, rfl, rfl, trivial⟩)⟩
      · rw [if_neg hc] at eq_49; rw [show q_48 = true from (by simpa using hc)] at S
        refine wl_pureK (l' := [(61, .bool true), (12, v_42), (10, v_34), (9, v_20), (8, .int .i64 x_13), (7, v_2)]) S tys tys_ok 6 [61, 12, 10, 9, 8, 7] (by kernel_rfl) ?_
        clear S; intro a S
        obtain rfl := Option.some.inj eq_49
        exact ⟨rfl, S.sub (by exact ⟨rfl, rfl, rfl, rfl, rfl, rfl, trivial⟩)⟩
    clear S eq_49; rintro a _ ⟨rfl, S⟩
    refine wl_pure (l' := [(62, .bool q_49), (61, .bool q_49), (12, v_42), (10, v_34), (9, v_20), (8, .int .i64 x_13), (7, v_2)]) S tys tys_ok 1 (by kernel_rfl) ?_
    clear S; intro a S
    obtain ⟨q_52, eq_52, h⟩ := bindS h
    refine seg 6 (fun a_ w_ => w_47 = w_ ∧ St 162 a_ [(68, .bool q_52), (12, v_42), (10, v_34), (9, v_20), (8, .int .i64 x_13), (7, v_2)]) ?_ ?_
    · by_cases hc : q_49 = false
      · rw [if_pos hc] at eq_52; rw [hc] at S
        refine wl_pure (l' := [(63, v_42), (62, .bool false), (61, .bool false), (12, v_42), (10, v_34), (9, v_20), (8, .int .i64 x_13), (7, v_2)]) S tys tys_ok 1 (by kernel_rfl) ?_
        clear S; intro a S
        refine w_go S rfl (op_len (K := _) S rfl ty27 rfl rfl rfl R_44.read ?_)
        clear S; intro a G_53 S
        refine wl_pure (l' := [(65, v_2), (64, .int .i64 (lenI (⟨t_41.1.xs, t_41.1.cap⟩ : Sl (Int)))), (63, v_42), (62, .bool false), (61, .bool false), (12, v_42), (10, v_34), (9, v_20), (8, .int .i64 x_13), (7, v_2)]) S tys tys_ok 1 (by kernel_rfl) ?_
        clear S; intro a S
        refine w_go S rfl (op_len (K := _) S rfl ty24 rfl rfl rfl R_18 ?_)
        clear S; intro a G_54 S
        refine wl_pureK (l' := [(68, .bool ((lenI (⟨t_41.1.xs, t_41.1.cap⟩ : Sl (Int))) != (lenI (⟨t_1.xs, t_1.cap⟩ : Sl (Int × Int × Bool × Bool × Bool × Bool × Int))))), (12, v_42), (10, v_34), (9, v_20), (8, .int .i64 x_13), (7, v_2)]) S tys tys_ok 2 [68, 12, 10, 9, 8, 7] (by kernel_rfl) ?_
        clear S; intro a S
        obtain rfl := Option.some.inj eq_52
        exact ⟨rfl, S.sub (by exact ⟨rfl, rfl, rfl, rfl, rfl, rfl, trivial⟩)⟩
      · rw [if_neg hc] at eq_52; rw [show q_49 = true from (by simpa using hc)] at S
        refine wl_pureK (l' := [(68, .bool true), (12, v_42), (10, v_34), (9, v_20), (8, .int .i64 x_13), (7, v_2)]) S tys tys_ok 6 [68, 12, 10, 9, 8, 7] (by kernel_rfl) ?_
        clear S; intro a S
        obtain rfl := Option.some.inj eq_52
        exact ⟨rfl, S.sub (by exact ⟨rfl, rfl, rfl, rfl, rfl, rfl, trivial⟩)⟩
    clear S eq_52; rintro a _ ⟨rfl, S⟩
    refine wpList_nil ?_
    refine then_n ?_
    refine wp_cond_split (S.eval (show ev _ _ = some (.bool q_52) from rfl)) ?_ ?_
    · intro hc
      rw [if_pos hc] at h
      refine wp_seq ?_
      refine wp_region_lit ?_
      refine wl_pureK (l' := [(6, .bool false)]) S tys tys_ok 1 [6] (by kernel_rfl) ?_
      clear S; intro a S
      refine wpList_nil ?_
      refine then_n ?_
      refine wp_ret ?_
      refine then_r ?_
      obtain rfl := Option.some.inj h
      exact b_ret1 S rfl rfl ⟨_, rfl, RepV.mkBool, W.below⟩
    · intro hc
      rw [if_neg (Bool.eq_false_iff.1 hc)] at h
      refine wp_skip ?_
      refine then_n ?_
      replace S := S.sub (l' := [(12, v_42), (10, v_34), (9, v_20), (8, .int .i64 x_13), (7, v_2)]) (by exact ⟨rfl, rfl, rfl, rfl, rfl, trivial⟩)
      refine wp_seq ?_
      obtain ⟨y_55, ey_55, h⟩ := bindS h
      obtain ⟨y_61, ey_61, h⟩ := bindS h
      obtain ⟨x_67, ex_67, h⟩ := bindS h
      have hR : Rel (Kx K w.heap.size [v_42.ownBlock, v_34.ownBlock]) Bl := Bl.rel _
      refine wp_region_all hR [eqv (v_42), isI .i64 x_13, isEo (.int .i64) (Kx K w.heap.size [v_42.ownBlock, v_34.ownBlock]) y_55, isI .i64 y_55, eqv (v_34), isI .i64 x_13, isEo (.int .i64) (Kx K w.heap.size [v_42.ownBlock, v_34.ownBlock]) y_61, isI .i64 y_61, isI .i64 x_67, isI .i64 x_67] [[], [], [(0, 69), (1, 70)], [(2, 71)], [], [], [(4, 73), (5, 74)], [(6, 75)], [(3, 72), (7, 76)], [(8, 77)]] (by kernel_rfl) (by rw [S.size]; kernel_rfl) (by kernel_rfl) (by kernel_rfl) rfl ⟨(stab_eqv _), stab_I, stab_eo, stab_I, (stab_eqv _), stab_I, stab_eo, stab_I, stab_I, stab_I, trivial⟩ ?_ ?_
      ·
        refine RunAll.cons (eqv (v_42)) [] rfl rfl ?_ ?_
        · intro W_ hW
          have S1 := S
          refine fill_nil S1 ?_; clear S1; intro a_ S1
          replace R_44 := R_44.step hW
          have S0 := S.defers; replace S := S1; clear S1
          refine wl_pure (l' := [(69, v_42), (12, v_42), (10, v_34), (9, v_20), (8, .int .i64 x_13), (7, v_2)]) S tys tys_ok 1 (by kernel_rfl) ?_; clear S; intro a S
          refine wpList_nil ?_
          exact RPost.mk_ S rfl S0 rfl (Below.refl _ _)
        refine RunAll.cons (isI .i64 x_13) [] rfl rfl ?_ ?_
        · intro W_ hW
          have S1 := S
          refine fill_nil S1 ?_; clear S1; intro a_ S1
          have S0 := S.defers; replace S := S1; clear S1
          refine wl_pure (l' := [(70, .int .i64 x_13), (12, v_42), (10, v_34), (9, v_20), (8, .int .i64 x_13), (7, v_2)]) S tys tys_ok 1 (by kernel_rfl) ?_; clear S; intro a S
          refine wpList_nil ?_
          exact RPost.mk_ S rfl S0 ⟨rfl, (inR_rem ex_13)⟩ (Below.refl _ _)
        refine RunAll.cons (isEo (.int .i64) (Kx K w.heap.size [v_42.ownBlock, v_34.ownBlock]) y_55) [(eqv (v_42), 69), (isI .i64 x_13, 70)] rfl rfl ?_ ?_
        · intro W_ hW
          have S1 := S
          intro v_69 hF_68; obtain rfl : v_42 = v_69 := Eq.symm hF_68
          replace S1 := S1.put (by decide : 69 < 162) (v_42)
          rintro _ ⟨rfl, hF_70⟩
          replace S1 := S1.put (by decide : 70 < 162) (.int .i64 x_13)
          refine fill_nil S1 ?_; clear S1; intro a_ S1
          replace R_44 := R_44.step hW
          replace W := W.step hW
          have S0 := S.defers; replace S := S1; clear S1
          refine w_go S rfl (op_indexAddr_own S rfl ty27 rfl rfl rfl R_44 rfl ey_55 ?_)
          clear S; intro a g_72 H_74 R_73 S
          refine wpList_nil ?_
          exact RPost.mk_ S rfl S0 ⟨_, rfl, R_73, W.ownlt (o := v_42.ownBlock) (List.mem_of_getElem? (i := 0) rfl) H_74⟩ (Below.refl _ _)
        refine RunAll.cons (isI .i64 y_55) [(isEo (.int .i64) (Kx K w.heap.size [v_42.ownBlock, v_34.ownBlock]) y_55, 71)] rfl rfl ?_ ?_
        · intro W_ hW
          have S1 := S
          rintro _ ⟨p_77, rfl, R_78, H_79⟩
          replace S1 := S1.put (by decide : 71 < 162) (.pointer (some p_77))
          refine fill_nil S1 ?_; clear S1; intro a_ S1
          have S0 := S.defers; replace S := S1; clear S1
          refine w_go S rfl (op_load (t := (.int .i64)) (x := y_55) S rfl ty3 rfl rfl rfl R_78 ?_)
          clear S; intro a v_80 R_81 S
          obtain ⟨rfl, GR_81⟩ := RepV.int R_81
          refine wpList_nil ?_
          exact RPost.mk_ S rfl S0 ⟨rfl, GR_81⟩ (Below.refl _ _)
        refine RunAll.cons (eqv (v_34)) [] rfl rfl ?_ ?_
        · intro W_ hW
          have S1 := S
          refine fill_nil S1 ?_; clear S1; intro a_ S1
          replace R_36 := R_36.step hW
          have S0 := S.defers; replace S := S1; clear S1
          refine wl_pure (l' := [(73, v_34), (12, v_42), (10, v_34), (9, v_20), (8, .int .i64 x_13), (7, v_2)]) S tys tys_ok 1 (by kernel_rfl) ?_; clear S; intro a S
          refine wpList_nil ?_
          exact RPost.mk_ S rfl S0 rfl (Below.refl _ _)
        refine RunAll.cons (isI .i64 x_13) [] rfl rfl ?_ ?_
        · intro W_ hW
          have S1 := S
          refine fill_nil S1 ?_; clear S1; intro a_ S1
          have S0 := S.defers; replace S := S1; clear S1
          refine wl_pure (l' := [(74, .int .i64 x_13), (12, v_42), (10, v_34), (9, v_20), (8, .int .i64 x_13), (7, v_2)]) S tys tys_ok 1 (by kernel_rfl) ?_; clear S; intro a S
          refine wpList_nil ?_
          exact RPost.mk_ S rfl S0 ⟨rfl, (inR_rem ex_13)⟩ (Below.refl _ _)
        refine RunAll.cons (isEo (.int .i64) (Kx K w.heap.size [v_42.ownBlock, v_34.ownBlock]) y_61) [(eqv (v_34), 73), (isI .i64 x_13, 74)] rfl rfl ?_ ?_
        · intro W_ hW
          have S1 := S
          intro v_83 hF_82; obtain rfl : v_34 = v_83 := Eq.symm hF_82
          replace S1 := S1.put (by decide : 73 < 162) (v_34)
          rintro _ ⟨rfl, hF_84⟩
          replace S1 := S1.put (by decide : 74 < 162) (.int .i64 x_13)
          refine fill_nil S1 ?_; clear S1; intro a_ S1
          replace R_36 := R_36.step hW
          replace W := W.step hW
          have S0 := S.defers; replace S := S1; clear S1
          refine w_go S rfl (op_indexAddr_own S rfl ty27 rfl rfl rfl R_36 rfl ey_61 ?_)
          clear S; intro a g_86 H_88 R_87 S
          refine wpList_nil ?_
          exact RPost.mk_ S rfl S0 ⟨_, rfl, R_87, W.ownlt (o := v_34.ownBlock) (List.mem_of_getElem? (i := 1) rfl) H_88⟩ (Below.refl _ _)
        refine RunAll.cons (isI .i64 y_61) [(isEo (.int .i64) (Kx K w.heap.size [v_42.ownBlock, v_34.ownBlock]) y_61, 75)] rfl rfl ?_ ?_
        · intro W_ hW
          have S1 := S
          rintro _ ⟨p_91, rfl, R_92, H_93⟩
          replace S1 := S1.put (by decide : 75 < 162) (.pointer (some p_91))
          refine fill_nil S1 ?_; clear S1; intro a_ S1
          have S0 := S.defers; replace S := S1; clear S1
          refine w_go S rfl (op_load (t := (.int .i64)) (x := y_61) S rfl ty3 rfl rfl rfl R_92 ?_)
          clear S; intro a v_94 R_95 S
          obtain ⟨rfl, GR_95⟩ := RepV.int R_95
          refine wpList_nil ?_
          exact RPost.mk_ S rfl S0 ⟨rfl, GR_95⟩ (Below.refl _ _)
        refine RunAll.cons (isI .i64 x_67) [(isI .i64 y_55, 72), (isI .i64 y_61, 76)] rfl rfl ?_ ?_
        · intro W_ hW
          have S1 := S
          rintro _ ⟨rfl, hF_96⟩
          replace S1 := S1.put (by decide : 72 < 162) (.int .i64 y_55)
          rintro _ ⟨rfl, hF_98⟩
          replace S1 := S1.put (by decide : 76 < 162) (.int .i64 y_61)
          refine fill_nil S1 ?_; clear S1; intro a_ S1
          have S0 := S.defers; replace S := S1; clear S1
          refine w_go S rfl (op_arith S .i64 (y_55 - y_61) rfl (.inr (.inl rfl)) rfl rfl rfl rfl ex_67 ?_)
          clear S; intro a S
          refine wpList_nil ?_
          exact RPost.mk_ S rfl S0 ⟨rfl, (ckI_some ex_67).2.1⟩ (Below.refl _ _)
        refine RunAll.cons (isI .i64 x_67) [(isI .i64 x_67, 77)] rfl rfl ?_ ?_
        · intro W_ hW
          have S1 := S
          rintro _ ⟨rfl, hF_100⟩
          replace S1 := S1.put (by decide : 77 < 162) (.int .i64 x_67)
          refine fill_nil S1 ?_; clear S1; intro a_ S1
          have S0 := S.defers; replace S := S1; clear S1
          refine wl_pure (l' := [(14, .int .i64 x_67), (77, .int .i64 x_67), (12, v_42), (10, v_34), (9, v_20), (8, .int .i64 x_13), (7, v_2)]) S tys tys_ok 1 (by kernel_rfl) ?_; clear S; intro a S
          refine wpList_nil ?_
          exact RPost.mk_ S rfl S0 ⟨rfl, hF_100⟩ (Below.refl _ _)
        exact trivial
      intro w_102 hb_103
      refine EndE.some_ rfl ?_
      intro v_105 hF_104; obtain rfl : v_42 = v_105 := Eq.symm hF_104
      replace S := S.put (by decide : 69 < 162) (v_42)
      refine EndE.some_ rfl ?_
      rintro _ ⟨rfl, hF_106⟩
      replace S := S.put (by decide : 70 < 162) (.int .i64 x_13)
      refine EndE.some_ rfl ?_
      rintro _ ⟨p_110, rfl, R_111, H_112⟩
      replace S := S.put (by decide : 71 < 162) (.pointer (some p_110))
      refine EndE.some_ rfl ?_
      rintro _ ⟨rfl, hF_113⟩
      replace S := S.put (by decide : 72 < 162) (.int .i64 y_55)
      refine EndE.some_ rfl ?_
      intro v_116 hF_115; obtain rfl : v_34 = v_116 := Eq.symm hF_115
      replace S := S.put (by decide : 73 < 162) (v_34)
      refine EndE.some_ rfl ?_
      rintro _ ⟨rfl, hF_117⟩
      replace S := S.put (by decide : 74 < 162) (.int .i64 x_13)
      refine EndE.some_ rfl ?_
      rintro _ ⟨p_121, rfl, R_122, H_123⟩
      replace S := S.put (by decide : 75 < 162) (.pointer (some p_121))
      refine EndE.some_ rfl ?_
      rintro _ ⟨rfl, hF_124⟩
      replace S := S.put (by decide : 76 < 162) (.int .i64 y_61)
      refine EndE.some_ rfl ?_
      rintro _ ⟨rfl, hF_126⟩
      replace S := S.put (by decide : 77 < 162) (.int .i64 x_67)
      refine EndE.some_ rfl ?_
      rintro _ ⟨rfl, hF_128⟩
      replace S := S.put (by decide : 14 < 162) (.int .i64 x_67)
      refine endE_nil S ?_; clear S; intro a S
      replace R_40 := R_40.step hb_103
      replace R_18 := R_18.step hb_103
      replace R_44 := R_44.step hb_103
      replace R_36 := R_36.step hb_103
      replace W := W.step hb_103
      refine then_n ?_
      replace S := S.sub (l' := [(14, .int .i64 x_67), (12, v_42), (10, v_34), (9, v_20), (8, .int .i64 x_13), (7, v_2)]) (by exact ⟨rfl, rfl, rfl, rfl, rfl, rfl, trivial⟩)
      refine wp_seq ?_
      refine wp_seq ?_
      refine wp_region_lit ?_
      refine wl_pure (l' := [(79, .int .i64 x_13), (78, v_2), (14, .int .i64 x_67), (12, v_42), (10, v_34), (9, v_20), (8, .int .i64 x_13), (7, v_2)]) S tys tys_ok 2 (by kernel_rfl) ?_
      clear S; intro a S
      obtain ⟨y_130, ey_130, h⟩ := bindS h
      refine w_go S rfl (op_indexAddr S rfl ty24 rfl rfl rfl R_18 rfl ey_130 ?_)
      clear S; intro a p_131 R_132 H_133 S
      refine wl_pureK (l' := [(81, .pointer (some (p_131.add (coff gf1 5)))), (14, .int .i64 x_67), (12, v_42), (10, v_34), (9, v_20), (8, .int .i64 x_13), (7, v_2)]) S tys tys_ok 1 [81, 14, 12, 10, 9, 8, 7] (by kernel_rfl) ?_
      clear S; intro a S
      refine w_go S rfl (op_load (t := .bool) (x := y_130.2.2.2.2.2.1) S rfl ty4 rfl rfl rfl (RepAt.add 5 (RepAt.st (t := gf1) R_132)) ?_)
      clear S; intro a v_134 R_135 S
      obtain rfl := RepV.bool R_135
      refine wl_pure (l' := [(83, .bool y_130.2.2.2.2.2.1), (82, .bool y_130.2.2.2.2.2.1), (81, .pointer (some (p_131.add (coff gf1 5)))), (14, .int .i64 x_67), (12, v_42), (10, v_34), (9, v_20), (8, .int .i64 x_13), (7, v_2)]) S tys tys_ok 1 (by kernel_rfl) ?_
      clear S; intro a S
      obtain ⟨q_136, eq_136, h⟩ := bindS h
      refine seg 7 (fun a_ w_ => w_102 = w_ ∧ St 162 a_ [(90, .bool q_136), (14, .int .i64 x_67), (12, v_42), (10, v_34), (9, v_20), (8, .int .i64 x_13), (7, v_2)]) ?_ ?_
      · by_cases hc : y_130.2.2.2.2.2.1 = false
        · rw [if_pos hc] at eq_136; rw [hc] at S
          refine wl_pure (l' := [(85, .int .i64 x_13), (84, v_2), (83, .bool false), (82, .bool false), (81, .pointer (some (p_131.add (coff gf1 5)))), (14, .int .i64 x_67), (12, v_42), (10, v_34), (9, v_20), (8, .int .i64 x_13), (7, v_2)]) S tys tys_ok 2 (by kernel_rfl) ?_
          clear S; intro a S
          obtain ⟨y_137, ey_137, eq_136⟩ := bindS eq_136
          refine w_go S rfl (op_indexAddr S rfl ty24 rfl rfl rfl R_18 rfl ey_137 ?_)
          clear S; intro a p_138 R_139 H_140 S
          refine wl_pureK (l' := [(87, .pointer (some (p_138.add (coff gf1 4)))), (83, .bool false), (14, .int .i64 x_67), (12, v_42), (10, v_34), (9, v_20), (8, .int .i64 x_13), (7, v_2)]) S tys tys_ok 1 [87, 83, 14, 12, 10, 9, 8, 7] (by kernel_rfl) ?_
          clear S; intro a S
          refine w_go S rfl (op_load (t := .bool) (x := y_137.2.2.2.2.1) S rfl ty4 rfl rfl rfl (RepAt.add 4 (RepAt.st (t := gf1) R_139)) ?_)
          clear S; intro a v_141 R_142 S
          obtain rfl := RepV.bool R_142
          refine wl_pureK (l' := [(90, .bool (!y_137.2.2.2.2.1)), (14, .int .i64 x_67), (12, v_42), (10, v_34), (9, v_20), (8, .int .i64 x_13), (7, v_2)]) S tys tys_ok 2 [90, 14, 12, 10, 9, 8, 7] (by kernel_rfl) ?_
          clear S; intro a S
          obtain rfl := Option.some.inj eq_136
          exact ⟨rfl, S.sub (by exact ⟨rfl, rfl, rfl, rfl, rfl, rfl, rfl, trivial⟩)⟩
        · rw [if_neg hc] at eq_136; rw [show y_130.2.2.2.2.2.1 = true from (by simpa using hc)] at S
          refine wl_pureK (l' := [(90, .bool true), (14, .int .i64 x_67), (12, v_42), (10, v_34), (9, v_20), (8, .int .i64 x_13), (7, v_2)]) S tys tys_ok 7 [90, 14, 12, 10, 9, 8, 7] (by kernel_rfl) ?_
          clear S; intro a S
          obtain rfl := Option.some.inj eq_136
          exact ⟨rfl, S.sub (by exact ⟨rfl, rfl, rfl, rfl, rfl, rfl, rfl, trivial⟩)⟩
      clear S eq_136; rintro a _ ⟨rfl, S⟩
      refine wl_pure (l' := [(91, .bool q_136), (90, .bool q_136), (14, .int .i64 x_67), (12, v_42), (10, v_34), (9, v_20), (8, .int .i64 x_13), (7, v_2)]) S tys tys_ok 1 (by kernel_rfl) ?_
      clear S; intro a S
      obtain ⟨q_143, eq_143, h⟩ := bindS h
      refine seg 5 (fun a_ w_ => St 162 a_ [(96, .bool q_143), (14, .int .i64 x_67), (12, v_42), (10, v_34), (9, v_20), (8, .int .i64 x_13), (7, v_2)] ∧ Wd w w_ [v_42.ownBlock, v_34.ownBlock] ∧ RepV (.sl gt1) w_ (Kx K w.heap.size [v_42.ownBlock, v_34.ownBlock]) v_20 (⟨(l_19.set x_13.toNat (y_25.1, y_25.2.1, y_25.2.2.1, y_25.2.2.2.1, y_25.2.2.2.2.1, y_25.2.2.2.2.2.1, x_24)), capA (some 0) l_19.length⟩ : Sl (Int × Int × Bool × Bool × Bool × Bool × Int)) ∧ RepV (.sl gt1) w_ (Kx K w.heap.size [v_42.ownBlock, v_34.ownBlock]) v_2 (⟨t_1.xs, t_1.cap⟩ : Sl (Int × Int × Bool × Bool × Bool × Bool × Int)) ∧ Ow (.int .i64) 3 w_ w.heap.size (Kx K w.heap.size [v_42.ownBlock, v_34.ownBlock]) v_42 t_41.1.xs t_41.1.cap ∧ Ow (.int .i64) 3 w_ w.heap.size (Kx K w.heap.size [v_42.ownBlock, v_34.ownBlock]) v_34 t_33.1.xs t_33.1.cap) ?_ ?_
      · by_cases hc : q_136 = false
        · rw [if_pos hc] at eq_143; rw [hc] at S
          refine wl_pure (l' := [(93, .int .i64 x_13), (92, v_2), (91, .bool false), (90, .bool false), (14, .int .i64 x_67), (12, v_42), (10, v_34), (9, v_20), (8, .int .i64 x_13), (7, v_2)]) S tys tys_ok 2 (by kernel_rfl) ?_
          clear S; intro a S
          obtain ⟨t_144, et_144, eq_143⟩ := bindS eq_143
          refine w_go S rfl (op_call (vs := [v_2, .int .i64 x_13]) S rfl cb26 rfl rfl rfl (c26 (Kx K w.heap.size [v_42.ownBlock, v_34.ownBlock]) n w_102 (⟨t_1.xs, t_1.cap⟩ : Sl (Int × Int × Bool × Bool × Bool × Bool × Int)) _ R_18 x_13 (inR_rem ex_13) et_144) ?_)
          rintro _ w_148 ⟨v_145, rfl, R_146, hb_147⟩; refine ⟨_, rfl, ?_⟩
          replace R_146 := RepV.back R_146 W
          clear S; intro a S
          replace R_40 := R_40.step hb_147
          replace R_18 := R_18.step hb_147
          replace R_44 := R_44.step hb_147
          replace R_36 := R_36.step hb_147
          replace W := W.step hb_147
          obtain ⟨rfl, GR_146⟩ := RepV.int R_146
          refine wl_pureK (l' := [(96, .bool (t_144 == 0)), (14, .int .i64 x_67), (12, v_42), (10, v_34), (9, v_20), (8, .int .i64 x_13), (7, v_2)]) S tys tys_ok 2 [96, 14, 12, 10, 9, 8, 7] (by kernel_rfl) ?_
          clear S; intro a S
          obtain rfl := Option.some.inj eq_143
          exact ⟨S.sub (by exact ⟨rfl, rfl, rfl, rfl, rfl, rfl, rfl, trivial⟩), W, R_40, R_18, R_44, R_36⟩
        · rw [if_neg hc] at eq_143; rw [show q_136 = true from (by simpa using hc)] at S
          refine wl_pureK (l' := [(96, .bool true), (14, .int .i64 x_67), (12, v_42), (10, v_34), (9, v_20), (8, .int .i64 x_13), (7, v_2)]) S tys tys_ok 5 [96, 14, 12, 10, 9, 8, 7] (by kernel_rfl) ?_
          clear S; intro a S
          obtain rfl := Option.some.inj eq_143
          exact ⟨S.sub (by exact ⟨rfl, rfl, rfl, rfl, rfl, rfl, rfl, trivial⟩), W, R_40, R_18, R_44, R_36⟩
      clear S W eq_143; rintro a w_149 ⟨S, W, R_40, R_18, R_44, R_36⟩
      refine wpList_nil ?_
      refine then_n ?_
      obtain ⟨j_150, ej_150, h⟩ := bindS h
      refine wp_cut_ (fun a_ w_ => ∃ s_151 : Unit, j_150 = .inl s_151 ∧ (St 162 a_ [(14, .int .i64 x_67), (12, v_42), (10, v_34), (8, .int .i64 x_13), (7, v_2)] ∧ Wd w w_ [v_42.ownBlock, v_34.ownBlock] ∧ RepV (.sl gt1) w_ (Kx K w.heap.size [v_42.ownBlock, v_34.ownBlock]) v_2 (⟨t_1.xs, t_1.cap⟩ : Sl (Int × Int × Bool × Bool × Bool × Bool × Int)) ∧ Ow (.int .i64) 3 w_ w.heap.size (Kx K w.heap.size [v_42.ownBlock, v_34.ownBlock]) v_42 t_41.1.xs t_41.1.cap ∧ Ow (.int .i64) 3 w_ w.heap.size (Kx K w.heap.size [v_42.ownBlock, v_34.ownBlock]) v_34 t_33.1.xs t_33.1.cap)) ?_ ?_
      · refine wp_cond_split (S.eval (show ev _ _ = some (.bool q_143) from rfl)) ?_ ?_
        · intro hc
          rw [if_pos hc] at ej_150
          refine wp_seq ?_
          refine wp_region_lit ?_
          refine wl_pureK (l' := [(98, .bool (x_67 != 0)), (14, .int .i64 x_67), (12, v_42), (10, v_34), (8, .int .i64 x_13), (7, v_2)]) S tys tys_ok 2 [98, 14, 12, 10, 8, 7] (by kernel_rfl) ?_
          clear S; intro a S
          refine wpList_nil ?_
          refine then_n ?_
          refine wp_cond_split (S.eval (show ev _ _ = some (.bool (x_67 != 0)) from rfl)) ?_ ?_
          · intro hc
            rw [if_pos hc] at ej_150
            refine wp_seq ?_
            refine wp_region_lit ?_
            refine wl_pureK (l' := [(6, .bool false)]) S tys tys_ok 1 [6] (by kernel_rfl) ?_
            clear S; intro a S
            refine wpList_nil ?_
            refine then_n ?_
            refine wp_ret ?_
            refine then_r ?_
            refine then_r ?_
            obtain rfl := Option.some.inj ej_150
            obtain rfl := lr_inr h
            exact b_ret1 S rfl rfl ⟨_, rfl, RepV.mkBool, W.below⟩
          · intro hc
            rw [if_neg (Bool.eq_false_iff.1 hc)] at ej_150
            refine wp_skip ?_
            refine then_n ?_
            obtain rfl := Option.some.inj ej_150
            exact ⟨_, rfl, ⟨S.sub (by exact ⟨rfl, rfl, rfl, rfl, rfl, trivial⟩), W, R_18, R_44, R_36⟩⟩
        · intro hc
          rw [if_neg (Bool.eq_false_iff.1 hc)] at ej_150
          refine wp_seq ?_
          obtain ⟨y_152, ey_152, ej_150⟩ := bindS ej_150
          obtain ⟨y_158, ey_158, ej_150⟩ := bindS ej_150
          obtain ⟨x_164, ex_164, ej_150⟩ := bindS ej_150
          have hR : Rel (Kx K w.heap.size [v_42.ownBlock, v_34.ownBlock]) Bl := Bl.rel _
          refine wp_region_all hR [isI .i64 x_67, isRep (.sl gt1) (Kx K w.heap.size [v_42.ownBlock, v_34.ownBlock]) (⟨(l_19.set x_13.toNat (y_25.1, y_25.2.1, y_25.2.2.1, y_25.2.2.2.1, y_25.2.2.2.2.1, y_25.2.2.2.2.2.1, x_24)), capA (some 0) l_19.length⟩ : Sl (Int × Int × Bool × Bool × Bool × Bool × Int)), isI .i64 x_13, isEl gt1 (Kx K w.heap.size [v_42.ownBlock, v_34.ownBlock]) y_152, isEl (.int .i64) (Kx K w.heap.size [v_42.ownBlock, v_34.ownBlock]) y_152.2.2.2.2.2.2, isI .i64 y_152.2.2.2.2.2.2, isRep (.sl gt1) (Kx K w.heap.size [v_42.ownBlock, v_34.ownBlock]) (⟨t_1.xs, t_1.cap⟩ : Sl (Int × Int × Bool × Bool × Bool × Bool × Int)), isI .i64 x_13, isEl gt1 (Kx K w.heap.size [v_42.ownBlock, v_34.ownBlock]) y_158, isEl (.int .i64) (Kx K w.heap.size [v_42.ownBlock, v_34.ownBlock]) y_158.2.2.2.2.2.2, isI .i64 y_158.2.2.2.2.2.2, isI .i64 x_164, eqv (.bool (x_67 != x_164))] [[], [], [], [(1, 100), (2, 101)], [(3, 102)], [(4, 103)], [], [], [(6, 105), (7, 106)], [(8, 107)], [(9, 108)], [(5, 104), (10, 109)], [(0, 99), (11, 110)]] (by kernel_rfl) (by rw [S.size]; kernel_rfl) (by kernel_rfl) (by kernel_rfl) rfl ⟨stab_I, (stab_rep hR), stab_I, (stab_el hR), (stab_el hR), stab_I, (stab_rep hR), stab_I, (stab_el hR), (stab_el hR), stab_I, stab_I, (stab_eqv _), trivial⟩ ?_ ?_
          ·
            refine RunAll.cons (isI .i64 x_67) [] rfl rfl ?_ ?_
            · intro W_ hW
              have S1 := S
              refine fill_nil S1 ?_; clear S1; intro a_ S1
              have S0 := S.defers; replace S := S1; clear S1
              refine wl_pure (l' := [(99, .int .i64 x_67), (96, .bool q_143), (14, .int .i64 x_67), (12, v_42), (10, v_34), (9, v_20), (8, .int .i64 x_13), (7, v_2)]) S tys tys_ok 1 (by kernel_rfl) ?_; clear S; intro a S
              refine wpList_nil ?_
              exact RPost.mk_ S rfl S0 ⟨rfl, hF_128⟩ (Below.refl _ _)
            refine RunAll.cons (isRep (.sl gt1) (Kx K w.heap.size [v_42.ownBlock, v_34.ownBlock]) (⟨(l_19.set x_13.toNat (y_25.1, y_25.2.1, y_25.2.2.1, y_25.2.2.2.1, y_25.2.2.2.2.1, y_25.2.2.2.2.2.1, x_24)), capA (some 0) l_19.length⟩ : Sl (Int × Int × Bool × Bool × Bool × Bool × Int))) [] rfl rfl ?_ ?_
            · intro W_ hW
              have S1 := S
              refine fill_nil S1 ?_; clear S1; intro a_ S1
              replace R_40 := R_40.step hW
              have S0 := S.defers; replace S := S1; clear S1
              refine wl_pure (l' := [(100, v_20), (96, .bool q_143), (14, .int .i64 x_67), (12, v_42), (10, v_34), (9, v_20), (8, .int .i64 x_13), (7, v_2)]) S tys tys_ok 1 (by kernel_rfl) ?_; clear S; intro a S
              refine wpList_nil ?_
              exact RPost.mk_ S rfl S0 R_40 (Below.refl _ _)
            refine RunAll.cons (isI .i64 x_13) [] rfl rfl ?_ ?_
            · intro W_ hW
              have S1 := S
              refine fill_nil S1 ?_; clear S1; intro a_ S1
              have S0 := S.defers; replace S := S1; clear S1
              refine wl_pure (l' := [(101, .int .i64 x_13), (96, .bool q_143), (14, .int .i64 x_67), (12, v_42), (10, v_34), (9, v_20), (8, .int .i64 x_13), (7, v_2)]) S tys tys_ok 1 (by kernel_rfl) ?_; clear S; intro a S
              refine wpList_nil ?_
              exact RPost.mk_ S rfl S0 ⟨rfl, (inR_rem ex_13)⟩ (Below.refl _ _)
            refine RunAll.cons (isEl gt1 (Kx K w.heap.size [v_42.ownBlock, v_34.ownBlock]) y_152) [(isRep (.sl gt1) (Kx K w.heap.size [v_42.ownBlock, v_34.ownBlock]) (⟨(l_19.set x_13.toNat (y_25.1, y_25.2.1, y_25.2.2.1, y_25.2.2.2.1, y_25.2.2.2.2.1, y_25.2.2.2.2.2.1, x_24)), capA (some 0) l_19.length⟩ : Sl (Int × Int × Bool × Bool × Bool × Bool × Int)), 100), (isI .i64 x_13, 101)] rfl rfl ?_ ?_
            · intro W_ hW
              have S1 := S
              intro v_166 hF_165; replace hF_165 : RepV _ _ _ _ _ := hF_165
              replace S1 := S1.put (by decide : 100 < 162) (v_166)
              rintro _ ⟨rfl, hF_167⟩
              replace S1 := S1.put (by decide : 101 < 162) (.int .i64 x_13)
              refine fill_nil S1 ?_; clear S1; intro a_ S1
              replace W := W.step hW
              have S0 := S.defers; replace S := S1; clear S1
              refine w_go S rfl (op_indexAddr S rfl ty24 rfl rfl rfl hF_165 rfl ey_152 ?_)
              clear S; intro a p_169 R_170 H_171 S
              refine wpList_nil ?_
              exact RPost.mk_ S rfl S0 ⟨_, rfl, R_170, H_171⟩ (Below.refl _ _)
            refine RunAll.cons (isEl (.int .i64) (Kx K w.heap.size [v_42.ownBlock, v_34.ownBlock]) y_152.2.2.2.2.2.2) [(isEl gt1 (Kx K w.heap.size [v_42.ownBlock, v_34.ownBlock]) y_152, 102)] rfl rfl ?_ ?_
            · intro W_ hW
              have S1 := S
              rintro _ ⟨p_174, rfl, R_175, H_176⟩
              replace S1 := S1.put (by decide : 102 < 162) (.pointer (some p_174))
              refine fill_nil S1 ?_; clear S1; intro a_ S1
              have S0 := S.defers; replace S := S1; clear S1
              refine wl_pure (l' := [(103, .pointer (some (p_174.add (coff gf1 6)))), (102, .pointer (some p_174)), (96, .bool q_143), (14, .int .i64 x_67), (12, v_42), (10, v_34), (9, v_20), (8, .int .i64 x_13), (7, v_2)]) S tys tys_ok 1 (by kernel_rfl) ?_; clear S; intro a S
              refine wpList_nil ?_
              exact RPost.mk_ S rfl S0 ⟨_, rfl, (RepAt.add 6 (RepAt.st (t := gf1) R_175)), (by simpa [Addr.add] using H_176)⟩ (Below.refl _ _)
            refine RunAll.cons (isI .i64 y_152.2.2.2.2.2.2) [(isEl (.int .i64) (Kx K w.heap.size [v_42.ownBlock, v_34.ownBlock]) y_152.2.2.2.2.2.2, 103)] rfl rfl ?_ ?_
            · intro W_ hW
              have S1 := S
              rintro _ ⟨p_179, rfl, R_180, H_181⟩
              replace S1 := S1.put (by decide : 103 < 162) (.pointer (some p_179))
              refine fill_nil S1 ?_; clear S1; intro a_ S1
              have S0 := S.defers; replace S := S1; clear S1
              refine w_go S rfl (op_load (t := (.int .i64)) (x := y_152.2.2.2.2.2.2) S rfl ty3 rfl rfl rfl R_180 ?_)
              clear S; intro a v_182 R_183 S
              obtain ⟨rfl, GR_183⟩ := RepV.int R_183
              refine wpList_nil ?_
              exact RPost.mk_ S rfl S0 ⟨rfl, GR_183⟩ (Below.refl _ _)
            refine RunAll.cons (isRep (.sl gt1) (Kx K w.heap.size [v_42.ownBlock, v_34.ownBlock]) (⟨t_1.xs, t_1.cap⟩ : Sl (Int × Int × Bool × Bool × Bool × Bool × Int))) [] rfl rfl ?_ ?_
            · intro W_ hW
              have S1 := S
              refine fill_nil S1 ?_; clear S1; intro a_ S1
              replace R_18 := R_18.step hW
              have S0 := S.defers; replace S := S1; clear S1
              refine wl_pure (l' := [(105, v_2), (96, .bool q_143), (14, .int .i64 x_67), (12, v_42), (10, v_34), (9, v_20), (8, .int .i64 x_13), (7, v_2)]) S tys tys_ok 1 (by kernel_rfl) ?_; clear S; intro a S
              refine wpList_nil ?_
              exact RPost.mk_ S rfl S0 R_18 (Below.refl _ _)
            refine RunAll.cons (isI .i64 x_13) [] rfl rfl ?_ ?_
            · intro W_ hW
              have S1 := S
              refine fill_nil S1 ?_; clear S1; intro a_ S1
              have S0 := S.defers; replace S := S1; clear S1
              refine wl_pure (l' := [(106, .int .i64 x_13), (96, .bool q_143), (14, .int .i64 x_67), (12, v_42), (10, v_34), (9, v_20), (8, .int .i64 x_13), (7, v_2)]) S tys tys_ok 1 (by kernel_rfl) ?_; clear S; intro a S
              refine wpList_nil ?_
              exact RPost.mk_ S rfl S0 ⟨rfl, (inR_rem ex_13)⟩ (Below.refl _ _)
            refine RunAll.cons (isEl gt1 (Kx K w.heap.size [v_42.ownBlock, v_34.ownBlock]) y_158) [(isRep (.sl gt1) (Kx K w.heap.size [v_42.ownBlock, v_34.ownBlock]) (⟨t_1.xs, t_1.cap⟩ : Sl (Int × Int × Bool × Bool × Bool × Bool × Int)), 105), (isI .i64 x_13, 106)] rfl rfl ?_ ?_
            · intro W_ hW
              have S1 := S
              intro v_185 hF_184; replace hF_184 : RepV _ _ _ _ _ := hF_184
              replace S1 := S1.put (by decide : 105 < 162) (v_185)
              rintro _ ⟨rfl, hF_186⟩
              replace S1 := S1.put (by decide : 106 < 162) (.int .i64 x_13)
              refine fill_nil S1 ?_; clear S1; intro a_ S1
              replace W := W.step hW
              have S0 := S.defers; replace S := S1; clear S1
              refine w_go S rfl (op_indexAddr S rfl ty24 rfl rfl rfl hF_184 rfl ey_158 ?_)
              clear S; intro a p_188 R_189 H_190 S
              refine wpList_nil ?_
              exact RPost.mk_ S rfl S0 ⟨_, rfl, R_189, H_190⟩ (Below.refl _ _)
            refine RunAll.cons (isEl (.int .i64) (Kx K w.heap.size [v_42.ownBlock, v_34.ownBlock]) y_158.2.2.2.2.2.2) [(isEl gt1 (Kx K w.heap.size [v_42.ownBlock, v_34.ownBlock]) y_158, 107)] rfl rfl ?_ ?_
            · intro W_ hW
              have S1 := S
              rintro _ ⟨p_193, rfl, R_194, H_195⟩
              replace S1 := S1.put (by decide : 107 < 162) (.pointer (some p_193))
              refine fill_nil S1 ?_; clear S1; intro a_ S1
              have S0 := S.defers; replace S := S1; clear S1
              refine wl_pure (l' := [(108, .pointer (some (p_193.add (coff gf1 6)))), (107, .pointer (some p_193)), (96, .bool q_143), (14, .int .i64 x_67), (12, v_42), (10, v_34), (9, v_20), (8, .int .i64 x_13), (7, v_2)]) S tys tys_ok 1 (by kernel_rfl) ?_; clear S; intro a S
              refine wpList_nil ?_
              exact RPost.mk_ S rfl S0 ⟨_, rfl, (RepAt.add 6 (RepAt.st (t := gf1) R_194)), (by simpa [Addr.add] using H_195)⟩ (Below.refl _ _)
            refine RunAll.cons (isI .i64 y_158.2.2.2.2.2.2) [(isEl (.int .i64) (Kx K w.heap.size [v_42.ownBlock, v_34.ownBlock]) y_158.2.2.2.2.2.2, 108)] rfl rfl ?_ ?_
            · intro W_ hW
              have S1 := S
              rintro _ ⟨p_198, rfl, R_199, H_200⟩
              replace S1 := S1.put (by decide : 108 < 162) (.pointer (some p_198))
              refine fill_nil S1 ?_; clear S1; intro a_ S1
              have S0 := S.defers; replace S := S1; clear S1
              refine w_go S rfl (op_load (t := (.int .i64)) (x := y_158.2.2.2.2.2.2) S rfl ty3 rfl rfl rfl R_199 ?_)
              clear S; intro a v_201 R_202 S
              obtain ⟨rfl, GR_202⟩ := RepV.int R_202
              refine wpList_nil ?_
              exact RPost.mk_ S rfl S0 ⟨rfl, GR_202⟩ (Below.refl _ _)
            refine RunAll.cons (isI .i64 x_164) [(isI .i64 y_152.2.2.2.2.2.2, 104), (isI .i64 y_158.2.2.2.2.2.2, 109)] rfl rfl ?_ ?_
            · intro W_ hW
              have S1 := S
              rintro _ ⟨rfl, hF_203⟩
              replace S1 := S1.put (by decide : 104 < 162) (.int .i64 y_152.2.2.2.2.2.2)
              rintro _ ⟨rfl, hF_205⟩
              replace S1 := S1.put (by decide : 109 < 162) (.int .i64 y_158.2.2.2.2.2.2)
              refine fill_nil S1 ?_; clear S1; intro a_ S1
              have S0 := S.defers; replace S := S1; clear S1
              refine w_go S rfl (op_arith S .i64 (y_152.2.2.2.2.2.2 - y_158.2.2.2.2.2.2) rfl (.inr (.inl rfl)) rfl rfl rfl rfl ex_164 ?_)
              clear S; intro a S
              refine wpList_nil ?_
              exact RPost.mk_ S rfl S0 ⟨rfl, (ckI_some ex_164).2.1⟩ (Below.refl _ _)
            refine RunAll.cons (eqv (.bool (x_67 != x_164))) [(isI .i64 x_67, 99), (isI .i64 x_164, 110)] rfl rfl ?_ ?_
            · intro W_ hW
              have S1 := S
              rintro _ ⟨rfl, hF_207⟩
              replace S1 := S1.put (by decide : 99 < 162) (.int .i64 x_67)
              rintro _ ⟨rfl, hF_209⟩
              replace S1 := S1.put (by decide : 110 < 162) (.int .i64 x_164)
              refine fill_nil S1 ?_; clear S1; intro a_ S1
              have S0 := S.defers; replace S := S1; clear S1
              refine wl_pure (l' := [(111, .bool (x_67 != x_164)), (110, .int .i64 x_164), (99, .int .i64 x_67), (96, .bool q_143), (14, .int .i64 x_67), (12, v_42), (10, v_34), (9, v_20), (8, .int .i64 x_13), (7, v_2)]) S tys tys_ok 1 (by kernel_rfl) ?_; clear S; intro a S
              refine wpList_nil ?_
              exact RPost.mk_ S rfl S0 rfl (Below.refl _ _)
            exact trivial
          intro w_211 hb_212
          refine EndE.some_ rfl ?_
          rintro _ ⟨rfl, hF_213⟩
          replace S := S.put (by decide : 99 < 162) (.int .i64 x_67)
          refine EndE.some_ rfl ?_
          intro v_216 hF_215; replace hF_215 : RepV _ _ _ _ _ := hF_215
          replace S := S.put (by decide : 100 < 162) (v_216)
          refine EndE.some_ rfl ?_
          rintro _ ⟨rfl, hF_217⟩
          replace S := S.put (by decide : 101 < 162) (.int .i64 x_13)
          refine EndE.some_ rfl ?_
          rintro _ ⟨p_221, rfl, R_222, H_223⟩
          replace S := S.put (by decide : 102 < 162) (.pointer (some p_221))
          refine EndE.some_ rfl ?_
          rintro _ ⟨p_226, rfl, R_227, H_228⟩
          replace S := S.put (by decide : 103 < 162) (.pointer (some p_226))
          refine EndE.some_ rfl ?_
          rintro _ ⟨rfl, hF_229⟩
          replace S := S.put (by decide : 104 < 162) (.int .i64 y_152.2.2.2.2.2.2)
          refine EndE.some_ rfl ?_
          intro v_232 hF_231; replace hF_231 : RepV _ _ _ _ _ := hF_231
          replace S := S.put (by decide : 105 < 162) (v_232)
          refine EndE.some_ rfl ?_
          rintro _ ⟨rfl, hF_233⟩
          replace S := S.put (by decide : 106 < 162) (.int .i64 x_13)
          refine EndE.some_ rfl ?_
          rintro _ ⟨p_237, rfl, R_238, H_239⟩
          replace S := S.put (by decide : 107 < 162) (.pointer (some p_237))
          refine EndE.some_ rfl ?_
          rintro _ ⟨p_242, rfl, R_243, H_244⟩
          replace S := S.put (by decide : 108 < 162) (.pointer (some p_242))
          refine EndE.some_ rfl ?_
          rintro _ ⟨rfl, hF_245⟩
          replace S := S.put (by decide : 109 < 162) (.int .i64 y_158.2.2.2.2.2.2)
          refine EndE.some_ rfl ?_
          rintro _ ⟨rfl, hF_247⟩
          replace S := S.put (by decide : 110 < 162) (.int .i64 x_164)
          refine EndE.some_ rfl ?_
          intro v_250 hF_249; obtain rfl : .bool (x_67 != x_164) = v_250 := Eq.symm hF_249
          replace S := S.put (by decide : 111 < 162) (.bool (x_67 != x_164))
          refine endE_nil S ?_; clear S; intro a S
          replace R_40 := R_40.step hb_212
          replace R_18 := R_18.step hb_212
          replace R_44 := R_44.step hb_212
          replace R_36 := R_36.step hb_212
          replace W := W.step hb_212
          refine then_n ?_
          replace S := S.sub (l' := [(111, .bool (x_67 != x_164)), (14, .int .i64 x_67), (12, v_42), (10, v_34), (8, .int .i64 x_13), (7, v_2)]) (by exact ⟨rfl, rfl, rfl, rfl, rfl, rfl, trivial⟩)
          refine wp_cond_split (S.eval (show ev _ _ = some (.bool (x_67 != x_164)) from rfl)) ?_ ?_
          · intro hc
            rw [if_pos hc] at ej_150
            refine wp_seq ?_
            refine wp_region_lit ?_
            refine wl_pureK (l' := [(6, .bool false)]) S tys tys_ok 1 [6] (by kernel_rfl) ?_
            clear S; intro a S
            refine wpList_nil ?_
            refine then_n ?_
            refine wp_ret ?_
            refine then_r ?_
            refine then_r ?_
            obtain rfl := Option.some.inj ej_150
            obtain rfl := lr_inr h
            exact b_ret1 S rfl rfl ⟨_, rfl, RepV.mkBool, W.below⟩
          · intro hc
            rw [if_neg (Bool.eq_false_iff.1 hc)] at ej_150
            refine wp_skip ?_
            refine then_n ?_
            obtain rfl := Option.some.inj ej_150
            exact ⟨_, rfl, ⟨S.sub (by exact ⟨rfl, rfl, rfl, rfl, rfl, trivial⟩), W, R_18, R_44, R_36⟩⟩
      clear S W; rintro a w_251 ⟨s_151, rfl, S, W, R_18, R_44, R_36⟩
      replace h := lr_inl h; try dsimp only at h
      refine then_n ?_
      refine wp_seq ?_
      refine wp_region_lit ?_
      refine w_go S rfl (op_alloc (K := K) (n := w.heap.size) (L := [v_42.ownBlock, v_34.ownBlock]) (t := (.arr 128 (.int .i64))) (y := (List.replicate 128 (0 : Int))) S rfl rfl rfl _ z26 (fun w K => (rep_replicate (e := (.int .i64)) (z := 0) (cs := [.int .i64 0]) (⟨rfl, by decide⟩) 128)) ?_)
      clear S; intro a w_254 b_252 hb_255 B_253 S
      replace R_18 := R_18.box hb_255
      replace R_44 := R_44.box hb_255
      replace R_36 := R_36.box hb_255
      replace W := W.box hb_255
      refine wpList_nil ?_
      refine then_n ?_
      refine wp_seq ?_
      refine wp_region_lit ?_
      refine wl_pure (l' := [(112, .int .i64 x_13), (15, pB b_252), (14, .int .i64 x_67), (12, v_42), (10, v_34), (8, .int .i64 x_13), (7, v_2)]) S tys tys_ok 1 (by kernel_rfl) ?_
      clear S; intro a S
      obtain ⟨y_256, ey_256, h⟩ := bindS h
      refine w_go S rfl (op_indexAddr_arr S rfl ty26 rfl rfl rfl B_253.at_ rfl ey_256 ?_)
      clear S; intro a S
      refine w_go S rfl (op_store (t' := (.int .i64)) S rfl rfl ty3 rfl (addr_add1 _ _) rfl B_253 (by simp) (Ln.arr (n := 128) (by have h_ := (idx_some ey_256).2.2; have l_ := (B_253.at_).arr_len; omega) 0) ((RepV.mkInt (by decide)) : RepV (.int .i64) w_254 (Kx K w.heap.size [some b_252, v_42.ownBlock, v_34.ownBlock]) _ 1) ?_)
      intro w_257 hw_258 B_
      replace R_18 := R_18.wrote hw_258 (by simp)
      replace R_44 := R_44.wrote hw_258 (by simp) (W.one (p := 1) (q := 0) (by decide) rfl rfl)
      replace R_36 := R_36.wrote hw_258 (by simp) (W.one (p := 2) (q := 0) (by decide) rfl rfl)
      replace W := W.wrote hw_258 (by simp)
      replace B_253 : Bx (.arr 128 (.int .i64)) 26 w_257 (Kx K w.heap.size [some b_252, v_42.ownBlock, v_34.ownBlock]) b_252 ((List.replicate 128 (0 : Int)).set x_13.toNat 1) := B_; clear B_
      refine wpList_nil ?_
      refine then_n ?_
      replace S := S.sub (l' := [(15, pB b_252), (14, .int .i64 x_67), (12, v_42), (10, v_34), (8, .int .i64 x_13), (7, v_2)]) (by exact ⟨rfl, rfl, rfl, rfl, rfl, rfl, trivial⟩)
      refine wp_seq ?_
      refine wp_seq ?_
      refine wp_region_lit ?_
      refine wl_pure (l' := [(16, .int .i64 x_13), (114, .int .i64 x_13), (15, pB b_252), (14, .int .i64 x_67), (12, v_42), (10, v_34), (8, .int .i64 x_13), (7, v_2)]) S tys tys_ok 2 (by kernel_rfl) ?_
      clear S; intro a S
      refine wpList_nil ?_
      refine then_n ?_
      replace S := S.sub (l' := [(16, .int .i64 x_13), (15, pB b_252), (14, .int .i64 x_67), (12, v_42), (10, v_34), (7, v_2)]) (by exact ⟨rfl, rfl, rfl, rfl, rfl, rfl, trivial⟩)
      obtain ⟨y_265, ey_265, h⟩ := bindS h
      refine wp_cut_ (fun a_ w_ => St 162 a_ [(7, v_2), (10, v_34), (12, v_42), (14, .int .i64 x_67), (15, pB b_252)] ∧ Wd w w_ [some b_252, v_42.ownBlock, v_34.ownBlock] ∧ RepV (.sl gt1) w_ (Kx K w.heap.size [some b_252, v_42.ownBlock, v_34.ownBlock]) v_2 (⟨t_1.xs, t_1.cap⟩ : Sl (Int × Int × Bool × Bool × Bool × Bool × Int)) ∧ Bx (.arr 128 (.int .i64)) 26 w_ (Kx K w.heap.size [some b_252, v_42.ownBlock, v_34.ownBlock]) b_252 y_265 ∧ Ow (.int .i64) 3 w_ w.heap.size (Kx K w.heap.size [some b_252, v_42.ownBlock, v_34.ownBlock]) v_34 t_33.1.xs t_33.1.cap ∧ Ow (.int .i64) 3 w_ w.heap.size (Kx K w.heap.size [some b_252, v_42.ownBlock, v_34.ownBlock]) v_42 t_41.1.xs t_41.1.cap) ?_ ?_
      · refine wp_block ?_
        refine wp_loop_n (fun m_ a_ w_ => ∃ (c_259 : Int) (c_261 : List (Int)) , St 162 a_ [(16, .int .i64 c_259), (15, pB b_252), (14, .int .i64 x_67), (12, v_42), (10, v_34), (7, v_2)] ∧ Wd w w_ [some b_252, v_42.ownBlock, v_34.ownBlock] ∧ InR .i64 c_259 ∧ RepV (.sl gt1) w_ (Kx K w.heap.size [some b_252, v_42.ownBlock, v_34.ownBlock]) v_2 (⟨t_1.xs, t_1.cap⟩ : Sl (Int × Int × Bool × Bool × Bool × Bool × Int)) ∧ Bx (.arr 128 (.int .i64)) 26 w_ (Kx K w.heap.size [some b_252, v_42.ownBlock, v_34.ownBlock]) b_252 c_261 ∧ Ow (.int .i64) 3 w_ w.heap.size (Kx K w.heap.size [some b_252, v_42.ownBlock, v_34.ownBlock]) v_42 t_41.1.xs t_41.1.cap ∧ Ow (.int .i64) 3 w_ w.heap.size (Kx K w.heap.size [some b_252, v_42.ownBlock, v_34.ownBlock]) v_34 t_33.1.xs t_33.1.cap ∧ p8_l1 n t_1 m_ c_259 c_261 = some y_265) n ?_ ?_
        · skip
          exact ⟨x_13, ((List.replicate 128 (0 : Int)).set x_13.toNat 1), ⟨S.sub (by exact ⟨rfl, rfl, rfl, rfl, rfl, rfl, trivial⟩), W, (inR_rem ex_13), R_18, B_253, R_44, R_36, ey_265⟩⟩
        · clear S W; rintro m_266 a w_268 ⟨c_259, c_261, S, W, G_260, R_18, B_253, R_44, R_36, hl_267⟩
          cases m_266 with
          | zero => exact absurd hl_267 (by simp [p8_l1])
          | succ m_266 =>
            refine ⟨m_266, rfl, ?_⟩
            rw [p8_l1] at hl_267
            refine wp_seq ?_
            refine wp_seq ?_
            refine wp_region_lit ?_
            refine wl_pure (l' := [(116, .int .i64 c_259), (115, v_2), (16, .int .i64 c_259), (15, pB b_252), (14, .int .i64 x_67), (12, v_42), (10, v_34), (7, v_2)]) S tys tys_ok 2 (by kernel_rfl) ?_
            clear S; intro a S
            obtain ⟨y_269, ey_269, hl_267⟩ := bindS hl_267
            refine w_go S rfl (op_indexAddr S rfl ty24 rfl rfl rfl R_18 rfl ey_269 ?_)
            clear S; intro a p_270 R_271 H_272 S
            refine wl_pureK (l' := [(118, .pointer (some (p_270.add (coff gf1 0)))), (16, .int .i64 c_259), (15, pB b_252), (14, .int .i64 x_67), (12, v_42), (10, v_34), (7, v_2)]) S tys tys_ok 1 [118, 16, 15, 14, 12, 10, 7] (by kernel_rfl) ?_
            clear S; intro a S
            refine w_go S rfl (op_load (t := (.int .i64)) (x := y_269.1) S rfl ty3 rfl rfl rfl (RepAt.add 0 (RepAt.st (t := gf1) R_271)) ?_)
            clear S; intro a v_273 R_274 S
            obtain ⟨rfl, GR_274⟩ := RepV.int R_274
            refine wl_pureK (l' := [(121, .bool (decide (y_269.1 ≥ 0))), (16, .int .i64 c_259), (15, pB b_252), (14, .int .i64 x_67), (12, v_42), (10, v_34), (7, v_2)]) S tys tys_ok 2 [121, 16, 15, 14, 12, 10, 7] (by kernel_rfl) ?_
            clear S; intro a S
            obtain ⟨q_275, eq_275, hl_267⟩ := bindS hl_267
            refine seg 11 (fun a_ w_ => w_268 = w_ ∧ St 162 a_ [(132, .bool q_275), (16, .int .i64 c_259), (15, pB b_252), (14, .int .i64 x_67), (12, v_42), (10, v_34), (7, v_2)]) ?_ ?_
            · by_cases hc : (decide (y_269.1 ≥ 0)) = true
              · rw [if_pos hc] at eq_275; rw [hc] at S
                refine wl_pure (l' := [(124, .int .i64 c_259), (123, v_2), (122, v_2), (121, .bool true), (16, .int .i64 c_259), (15, pB b_252), (14, .int .i64 x_67), (12, v_42), (10, v_34), (7, v_2)]) S tys tys_ok 3 (by kernel_rfl) ?_
                clear S; intro a S
                obtain ⟨y_276, ey_276, eq_275⟩ := bindS eq_275
                refine w_go S rfl (op_indexAddr S rfl ty24 rfl rfl rfl R_18 rfl ey_276 ?_)
                clear S; intro a p_277 R_278 H_279 S
                refine wl_pure (l' := [(126, .pointer (some (p_277.add (coff gf1 0)))), (125, .pointer (some p_277)), (124, .int .i64 c_259), (123, v_2), (122, v_2), (121, .bool true), (16, .int .i64 c_259), (15, pB b_252), (14, .int .i64 x_67), (12, v_42), (10, v_34), (7, v_2)]) S tys tys_ok 1 (by kernel_rfl) ?_
                clear S; intro a S
                refine w_go S rfl (op_load (t := (.int .i64)) (x := y_276.1) S rfl ty3 rfl rfl rfl (RepAt.add 0 (RepAt.st (t := gf1) R_278)) ?_)
                clear S; intro a v_280 R_281 S
                obtain ⟨rfl, GR_281⟩ := RepV.int R_281
                obtain ⟨y_282, ey_282, eq_275⟩ := bindS eq_275
                refine w_go S rfl (op_indexAddr S rfl ty24 rfl rfl rfl R_18 rfl ey_282 ?_)
                clear S; intro a p_283 R_284 H_285 S
                refine wl_pure (l' := [(129, .pointer (some (p_283.add (coff gf1 3)))), (128, .pointer (some p_283)), (127, .int .i64 y_276.1), (126, .pointer (some (p_277.add (coff gf1 0)))), (125, .pointer (some p_277)), (124, .int .i64 c_259), (123, v_2), (122, v_2), (121, .bool true), (16, .int .i64 c_259), (15, pB b_252), (14, .int .i64 x_67), (12, v_42), (10, v_34), (7, v_2)]) S tys tys_ok 1 (by kernel_rfl) ?_
                clear S; intro a S
                refine w_go S rfl (op_load (t := .bool) (x := y_282.2.2.2.1) S rfl ty4 rfl rfl rfl (RepAt.add 3 (RepAt.st (t := gf1) R_284)) ?_)
                clear S; intro a v_286 R_287 S
                obtain rfl := RepV.bool R_287
                refine wl_pure (l' := [(132, .bool (!y_282.2.2.2.1)), (131, .bool (!y_282.2.2.2.1)), (130, .bool y_282.2.2.2.1), (129, .pointer (some (p_283.add (coff gf1 3)))), (128, .pointer (some p_283)), (127, .int .i64 y_276.1), (126, .pointer (some (p_277.add (coff gf1 0)))), (125, .pointer (some p_277)), (124, .int .i64 c_259), (123, v_2), (122, v_2), (121, .bool true), (16, .int .i64 c_259), (15, pB b_252), (14, .int .i64 x_67), (12, v_42), (10, v_34), (7, v_2)]) S tys tys_ok 2 (by kernel_rfl) ?_
                clear S; intro a S
                obtain rfl := Option.some.inj eq_275
                exact ⟨rfl, S.sub (by exact ⟨rfl, rfl, rfl, rfl, rfl, rfl, rfl, trivial⟩)⟩
              · rw [if_neg hc] at eq_275; rw [show (decide (y_269.1 ≥ 0)) = false from Bool.eq_false_iff.2 hc] at S
                refine wl_pure (l' := [(132, .bool false), (131, undef), (130, undef), (129, undef), (128, undef), (127, undef), (126, undef), (125, undef), (124, undef), (123, undef), (122, undef), (121, .bool false), (16, .int .i64 c_259), (15, pB b_252), (14, .int .i64 x_67), (12, v_42), (10, v_34), (7, v_2)]) S tys tys_ok 11 (by kernel_rfl) ?_
                clear S; intro a S
                obtain rfl := Option.some.inj eq_275
                exact ⟨rfl, S.sub (by exact ⟨rfl, rfl, rfl, rfl, rfl, rfl, rfl, trivial⟩)⟩
            clear S eq_275; rintro a _ ⟨rfl, S⟩
            refine wpList_nil ?_
            refine then_n ?_
            refine wp_cond_split (S.eval (show ev _ _ = some (.bool q_275) from rfl)) ?_ ?_
            · intro hc
              rw [if_pos hc] at hl_267
              refine wp_skip ?_
              refine then_n ?_
              replace S := S.sub (l' := [(16, .int .i64 c_259), (15, pB b_252), (14, .int .i64 x_67), (12, v_42), (10, v_34), (7, v_2)]) (by exact ⟨rfl, rfl, rfl, rfl, rfl, rfl, trivial⟩)
              refine wp_block ?_
              refine wp_seq ?_
              refine wp_region_lit ?_
              refine wl_pure (l' := [(134, .int .i64 c_259), (133, v_2), (16, .int .i64 c_259), (15, pB b_252), (14, .int .i64 x_67), (12, v_42), (10, v_34), (7, v_2)]) S tys tys_ok 2 (by kernel_rfl) ?_
              clear S; intro a S
              obtain ⟨y_288, ey_288, hl_267⟩ := bindS hl_267
              refine w_go S rfl (op_indexAddr S rfl ty24 rfl rfl rfl R_18 rfl ey_288 ?_)
              clear S; intro a p_289 R_290 H_291 S
              refine wl_pureK (l' := [(136, .pointer (some (p_289.add (coff gf1 0)))), (16, .int .i64 c_259), (15, pB b_252), (14, .int .i64 x_67), (12, v_42), (10, v_34), (7, v_2)]) S tys tys_ok 1 [136, 16, 15, 14, 12, 10, 7] (by kernel_rfl) ?_
              clear S; intro a S
              refine w_go S rfl (op_load (t := (.int .i64)) (x := y_288.1) S rfl ty3 rfl rfl rfl (RepAt.add 0 (RepAt.st (t := gf1) R_290)) ?_)
              clear S; intro a v_292 R_293 S
              obtain ⟨rfl, GR_293⟩ := RepV.int R_293
              refine wl_pure (l' := [(16, .int .i64 y_288.1), (137, .int .i64 y_288.1), (136, .pointer (some (p_289.add (coff gf1 0)))), (16, .int .i64 c_259), (15, pB b_252), (14, .int .i64 x_67), (12, v_42), (10, v_34), (7, v_2)]) S tys tys_ok 1 (by kernel_rfl) ?_
              clear S; intro a S
              refine wpList_nil ?_
              refine then_n ?_
              replace S := S.sub (l' := [(16, .int .i64 y_288.1), (15, pB b_252), (14, .int .i64 x_67), (12, v_42), (10, v_34), (7, v_2)]) (by exact ⟨rfl, rfl, rfl, rfl, rfl, rfl, trivial⟩)
              refine wp_region_lit ?_
              refine wl_pure (l' := [(138, .int .i64 y_288.1), (16, .int .i64 y_288.1), (15, pB b_252), (14, .int .i64 x_67), (12, v_42), (10, v_34), (7, v_2)]) S tys tys_ok 1 (by kernel_rfl) ?_
              clear S; intro a S
              obtain ⟨y_294, ey_294, hl_267⟩ := bindS hl_267
              refine w_go S rfl (op_indexAddr_arr S rfl ty26 rfl rfl rfl B_253.at_ rfl ey_294 ?_)
              clear S; intro a S
              refine w_go S rfl (op_store (t' := (.int .i64)) S rfl rfl ty3 rfl (addr_add1 _ _) rfl B_253 (by simp) (Ln.arr (n := 128) (by have h_ := (idx_some ey_294).2.2; have l_ := (B_253.at_).arr_len; omega) 0) ((RepV.mkInt (by decide)) : RepV (.int .i64) w_268 (Kx K w.heap.size [some b_252, v_42.ownBlock, v_34.ownBlock]) _ 1) ?_)
              intro w_295 hw_296 B_
              replace R_18 := R_18.wrote hw_296 (by simp)
              replace R_44 := R_44.wrote hw_296 (by simp) (W.one (p := 1) (q := 0) (by decide) rfl rfl)
              replace R_36 := R_36.wrote hw_296 (by simp) (W.one (p := 2) (q := 0) (by decide) rfl rfl)
              replace W := W.wrote hw_296 (by simp)
              replace B_253 : Bx (.arr 128 (.int .i64)) 26 w_295 (Kx K w.heap.size [some b_252, v_42.ownBlock, v_34.ownBlock]) b_252 (c_261.set y_288.1.toNat 1) := B_; clear B_
              refine wpList_nil ?_
              refine blk_n ?_
              refine then_n ?_
              exact ⟨y_288.1, (c_261.set y_288.1.toNat 1), ⟨S.sub (by exact ⟨rfl, rfl, rfl, rfl, rfl, rfl, trivial⟩), W, GR_293, R_18, B_253, R_44, R_36, hl_267⟩⟩
            · intro hc
              rw [if_neg (Bool.eq_false_iff.1 hc)] at hl_267
              refine wp_exit ?_
              refine then_x ?_
              refine then_x ?_
              refine blk_hit ?_
              refine then_n ?_
              obtain rfl := Option.some.inj hl_267
              exact ⟨S.sub (by exact ⟨rfl, rfl, rfl, rfl, rfl, trivial⟩), W, R_18, B_253, R_36, R_44⟩
      clear S W; rintro a w_297 ⟨S, W, R_18, B_253, R_36, R_44⟩
      refine then_n ?_
      refine wp_seq ?_
      refine wp_seq ?_
      refine wp_region_lit ?_
      refine wl_pure (l' := [(17, .int .i64 0), (7, v_2), (10, v_34), (12, v_42), (14, .int .i64 x_67), (15, pB b_252)]) S tys tys_ok 1 (by kernel_rfl) ?_
      clear S; intro a S
      refine wpList_nil ?_
      refine then_n ?_
      obtain ⟨y_302, ey_302, h⟩ := bindS h
      refine wp_cut_ (fun a_ w_ => ∃ s_303 : Unit, y_302 = .inl s_303 ∧ (St 162 a_ [] ∧ Wd w w_ [some b_252, v_42.ownBlock, v_34.ownBlock] ∧ Bx (.arr 128 (.int .i64)) 26 w_ (Kx K w.heap.size [some b_252, v_42.ownBlock, v_34.ownBlock]) b_252 y_265)) ?_ ?_
      · refine wp_block ?_
        refine wp_loop_n (fun m_ a_ w_ => ∃ (c_298 : Int) , St 162 a_ [(17, .int .i64 c_298), (7, v_2), (10, v_34), (12, v_42), (14, .int .i64 x_67), (15, pB b_252)] ∧ Wd w w_ [some b_252, v_42.ownBlock, v_34.ownBlock] ∧ InR .i64 c_298 ∧ RepV (.sl gt1) w_ (Kx K w.heap.size [some b_252, v_42.ownBlock, v_34.ownBlock]) v_2 (⟨t_1.xs, t_1.cap⟩ : Sl (Int × Int × Bool × Bool × Bool × Bool × Int)) ∧ Bx (.arr 128 (.int .i64)) 26 w_ (Kx K w.heap.size [some b_252, v_42.ownBlock, v_34.ownBlock]) b_252 y_265 ∧ Ow (.int .i64) 3 w_ w.heap.size (Kx K w.heap.size [some b_252, v_42.ownBlock, v_34.ownBlock]) v_34 t_33.1.xs t_33.1.cap ∧ Ow (.int .i64) 3 w_ w.heap.size (Kx K w.heap.size [some b_252, v_42.ownBlock, v_34.ownBlock]) v_42 t_41.1.xs t_41.1.cap ∧ p8_l2 n t_1 t_33 t_41 x_67 y_265 m_ c_298 = some y_302) n ?_ ?_
        · skip
          exact ⟨0, ⟨S.sub (by exact ⟨rfl, rfl, rfl, rfl, rfl, rfl, trivial⟩), W, (by decide), R_18, B_253, R_36, R_44, ey_302⟩⟩
        · clear S W; rintro m_304 a w_306 ⟨c_298, S, W, G_299, R_18, B_253, R_36, R_44, hl_305⟩
          cases m_304 with
          | zero => exact absurd hl_305 (by simp [p8_l2])
          | succ m_304 =>
            refine ⟨m_304, rfl, ?_⟩
            rw [p8_l2] at hl_305
            refine wp_seq ?_
            refine wp_seq ?_
            refine wp_region_lit ?_
            refine wl_pure (l' := [(141, v_2), (140, .int .i64 c_298), (17, .int .i64 c_298), (7, v_2), (10, v_34), (12, v_42), (14, .int .i64 x_67), (15, pB b_252)]) S tys tys_ok 2 (by kernel_rfl) ?_
            clear S; intro a S
            refine w_go S rfl (op_len (K := _) S rfl ty24 rfl rfl rfl R_18 ?_)
            clear S; intro a G_307 S
            refine wl_pureK (l' := [(143, .bool (decide (c_298 < (lenI (⟨t_1.xs, t_1.cap⟩ : Sl (Int × Int × Bool × Bool × Bool × Bool × Int)))))), (17, .int .i64 c_298), (7, v_2), (10, v_34), (12, v_42), (14, .int .i64 x_67), (15, pB b_252)]) S tys tys_ok 1 [143, 17, 7, 10, 12, 14, 15] (by kernel_rfl) ?_
            clear S; intro a S
            refine wpList_nil ?_
            refine then_n ?_
            refine wp_cond_split (S.eval (show ev _ _ = some (.bool (decide (c_298 < (lenI (⟨t_1.xs, t_1.cap⟩ : Sl (Int × Int × Bool × Bool × Bool × Bool × Int)))))) from rfl)) ?_ ?_
            · intro hc
              rw [if_pos hc] at hl_305
              refine wp_skip ?_
              refine then_n ?_
              replace S := S.sub (l' := [(17, .int .i64 c_298), (7, v_2), (10, v_34), (12, v_42), (14, .int .i64 x_67), (15, pB b_252)]) (by exact ⟨rfl, rfl, rfl, rfl, rfl, rfl, trivial⟩)
              refine wp_seq ?_
              refine wp_block ?_
              refine wp_seq ?_
              obtain ⟨y_308, ey_308, hl_305⟩ := bindS hl_305
              obtain ⟨y_314, ey_314, hl_305⟩ := bindS hl_305
              obtain ⟨x_320, ex_320, hl_305⟩ := bindS hl_305
              obtain ⟨y_321, ey_321, hl_305⟩ := bindS hl_305
              obtain ⟨x_324, ex_324, hl_305⟩ := bindS hl_305
              have hR : Rel (Kx K w.heap.size [some b_252, v_42.ownBlock, v_34.ownBlock]) Bl := Bl.rel _
              refine wp_region_all hR [eqv (v_42), isI .i64 c_298, isEo (.int .i64) (Kx K w.heap.size [some b_252, v_42.ownBlock, v_34.ownBlock]) y_308, isI .i64 y_308, eqv (v_34), isI .i64 c_298, isEo (.int .i64) (Kx K w.heap.size [some b_252, v_42.ownBlock, v_34.ownBlock]) y_314, isI .i64 y_314, isI .i64 x_320, isI .i64 x_67, isI .i64 c_298, eqv (.pointer (some ((⟨b_252, 0, .none⟩ : Addr).add (c_298.toNat * GT.sz (.int .i64))))), isI .i64 y_321, isI .i64 x_324, eqv (.bool (x_320 != x_324))] [[], [], [(0, 146), (1, 147)], [(2, 148)], [], [], [(4, 150), (5, 151)], [(6, 152)], [(3, 149), (7, 153)], [], [], [(10, 156)], [(11, 157)], [(9, 155), (12, 158)], [(8, 154), (13, 159)]] (by kernel_rfl) (by rw [S.size]; kernel_rfl) (by kernel_rfl) (by kernel_rfl) rfl ⟨(stab_eqv _), stab_I, stab_eo, stab_I, (stab_eqv _), stab_I, stab_eo, stab_I, stab_I, stab_I, stab_I, (stab_eqv _), stab_I, stab_I, (stab_eqv _), trivial⟩ ?_ ?_
              ·
                refine RunAll.cons (eqv (v_42)) [] rfl rfl ?_ ?_
                · intro W_ hW
                  have S1 := S
                  refine fill_nil S1 ?_; clear S1; intro a_ S1
                  replace R_44 := R_44.step hW
                  have S0 := S.defers; replace S := S1; clear S1
                  refine wl_pure (l' := [(146, v_42), (17, .int .i64 c_298), (7, v_2), (10, v_34), (12, v_42), (14, .int .i64 x_67), (15, pB b_252)]) S tys tys_ok 1 (by kernel_rfl) ?_; clear S; intro a S
                  refine wpList_nil ?_
                  exact RPost.mk_ S rfl S0 rfl (Below.refl _ _)
                refine RunAll.cons (isI .i64 c_298) [] rfl rfl ?_ ?_
                · intro W_ hW
                  have S1 := S
                  refine fill_nil S1 ?_; clear S1; intro a_ S1
                  have S0 := S.defers; replace S := S1; clear S1
                  refine wl_pure (l' := [(147, .int .i64 c_298), (17, .int .i64 c_298), (7, v_2), (10, v_34), (12, v_42), (14, .int .i64 x_67), (15, pB b_252)]) S tys tys_ok 1 (by kernel_rfl) ?_; clear S; intro a S
                  refine wpList_nil ?_
                  exact RPost.mk_ S rfl S0 ⟨rfl, G_299⟩ (Below.refl _ _)
                refine RunAll.cons (isEo (.int .i64) (Kx K w.heap.size [some b_252, v_42.ownBlock, v_34.ownBlock]) y_308) [(eqv (v_42), 146), (isI .i64 c_298, 147)] rfl rfl ?_ ?_
                · intro W_ hW
                  have S1 := S
                  intro v_326 hF_325; obtain rfl : v_42 = v_326 := Eq.symm hF_325
                  replace S1 := S1.put (by decide : 146 < 162) (v_42)
                  rintro _ ⟨rfl, hF_327⟩
                  replace S1 := S1.put (by decide : 147 < 162) (.int .i64 c_298)
                  refine fill_nil S1 ?_; clear S1; intro a_ S1
                  replace R_44 := R_44.step hW
                  replace W := W.step hW
                  have S0 := S.defers; replace S := S1; clear S1
                  refine w_go S rfl (op_indexAddr_own S rfl ty27 rfl rfl rfl R_44 rfl ey_308 ?_)
                  clear S; intro a g_329 H_331 R_330 S
                  refine wpList_nil ?_
                  exact RPost.mk_ S rfl S0 ⟨_, rfl, R_330, W.ownlt (o := v_42.ownBlock) (List.mem_of_getElem? (i := 1) rfl) H_331⟩ (Below.refl _ _)
                refine RunAll.cons (isI .i64 y_308) [(isEo (.int .i64) (Kx K w.heap.size [some b_252, v_42.ownBlock, v_34.ownBlock]) y_308, 148)] rfl rfl ?_ ?_
                · intro W_ hW
                  have S1 := S
                  rintro _ ⟨p_334, rfl, R_335, H_336⟩
                  replace S1 := S1.put (by decide : 148 < 162) (.pointer (some p_334))
                  refine fill_nil S1 ?_; clear S1; intro a_ S1
                  have S0 := S.defers; replace S := S1; clear S1
                  refine w_go S rfl (op_load (t := (.int .i64)) (x := y_308) S rfl ty3 rfl rfl rfl R_335 ?_)
                  clear S; intro a v_337 R_338 S
                  obtain ⟨rfl, GR_338⟩ := RepV.int R_338
                  refine wpList_nil ?_
                  exact RPost.mk_ S rfl S0 ⟨rfl, GR_338⟩ (Below.refl _ _)
                refine RunAll.cons (eqv (v_34)) [] rfl rfl ?_ ?_
                · intro W_ hW
                  have S1 := S
                  refine fill_nil S1 ?_; clear S1; intro a_ S1
                  replace R_36 := R_36.step hW
                  have S0 := S.defers; replace S := S1; clear S1
                  refine wl_pure (l' := [(150, v_34), (17, .int .i64 c_298), (7, v_2), (10, v_34), (12, v_42), (14, .int .i64 x_67), (15, pB b_252)]) S tys tys_ok 1 (by kernel_rfl) ?_; clear S; intro a S
                  refine wpList_nil ?_
                  exact RPost.mk_ S rfl S0 rfl (Below.refl _ _)
                refine RunAll.cons (isI .i64 c_298) [] rfl rfl ?_ ?_
                · intro W_ hW
                  have S1 := S
                  refine fill_nil S1 ?_; clear S1; intro a_ S1
                  have S0 := S.defers; replace S := S1; clear S1
                  refine wl_pure (l' := [(151, .int .i64 c_298), (17, .int .i64 c_298), (7, v_2), (10, v_34), (12, v_42), (14, .int .i64 x_67), (15, pB b_252)]) S tys tys_ok 1 (by kernel_rfl) ?_; clear S; intro a S
                  refine wpList_nil ?_
                  exact RPost.mk_ S rfl S0 ⟨rfl, G_299⟩ (Below.refl _ _)
                refine RunAll.cons (isEo (.int .i64) (Kx K w.heap.size [some b_252, v_42.ownBlock, v_34.ownBlock]) y_314) [(eqv (v_34), 150), (isI .i64 c_298, 151)] rfl rfl ?_ ?_
                · intro W_ hW
                  have S1 := S
                  intro v_340 hF_339; obtain rfl : v_34 = v_340 := Eq.symm hF_339
                  replace S1 := S1.put (by decide : 150 < 162) (v_34)
                  rintro _ ⟨rfl, hF_341⟩
                  replace S1 := S1.put (by decide : 151 < 162) (.int .i64 c_298)
                  refine fill_nil S1 ?_; clear S1; intro a_ S1
                  replace R_36 := R_36.step hW
                  replace W := W.step hW
                  have S0 := S.defers; replace S := S1; clear S1
                  refine w_go S rfl (op_indexAddr_own S rfl ty27 rfl rfl rfl R_36 rfl ey_314 ?_)
                  clear S; intro a g_343 H_345 R_344 S
                  refine wpList_nil ?_
                  exact RPost.mk_ S rfl S0 ⟨_, rfl, R_344, W.ownlt (o := v_34.ownBlock) (List.mem_of_getElem? (i := 2) rfl) H_345⟩ (Below.refl _ _)
                refine RunAll.cons (isI .i64 y_314) [(isEo (.int .i64) (Kx K w.heap.size [some b_252, v_42.ownBlock, v_34.ownBlock]) y_314, 152)] rfl rfl ?_ ?_
                · intro W_ hW
                  have S1 := S
                  rintro _ ⟨p_348, rfl, R_349, H_350⟩
                  replace S1 := S1.put (by decide : 152 < 162) (.pointer (some p_348))
                  refine fill_nil S1 ?_; clear S1; intro a_ S1
                  have S0 := S.defers; replace S := S1; clear S1
                  refine w_go S rfl (op_load (t := (.int .i64)) (x := y_314) S rfl ty3 rfl rfl rfl R_349 ?_)
                  clear S; intro a v_351 R_352 S
                  obtain ⟨rfl, GR_352⟩ := RepV.int R_352
                  refine wpList_nil ?_
                  exact RPost.mk_ S rfl S0 ⟨rfl, GR_352⟩ (Below.refl _ _)
                refine RunAll.cons (isI .i64 x_320) [(isI .i64 y_308, 149), (isI .i64 y_314, 153)] rfl rfl ?_ ?_
                · intro W_ hW
                  have S1 := S
                  rintro _ ⟨rfl, hF_353⟩
                  replace S1 := S1.put (by decide : 149 < 162) (.int .i64 y_308)
                  rintro _ ⟨rfl, hF_355⟩
                  replace S1 := S1.put (by decide : 153 < 162) (.int .i64 y_314)
                  refine fill_nil S1 ?_; clear S1; intro a_ S1
                  have S0 := S.defers; replace S := S1; clear S1
                  refine w_go S rfl (op_arith S .i64 (y_308 - y_314) rfl (.inr (.inl rfl)) rfl rfl rfl rfl ex_320 ?_)
                  clear S; intro a S
                  refine wpList_nil ?_
                  exact RPost.mk_ S rfl S0 ⟨rfl, (ckI_some ex_320).2.1⟩ (Below.refl _ _)
                refine RunAll.cons (isI .i64 x_67) [] rfl rfl ?_ ?_
                · intro W_ hW
                  have S1 := S
                  refine fill_nil S1 ?_; clear S1; intro a_ S1
                  have S0 := S.defers; replace S := S1; clear S1
                  refine wl_pure (l' := [(155, .int .i64 x_67), (17, .int .i64 c_298), (7, v_2), (10, v_34), (12, v_42), (14, .int .i64 x_67), (15, pB b_252)]) S tys tys_ok 1 (by kernel_rfl) ?_; clear S; intro a S
                  refine wpList_nil ?_
                  exact RPost.mk_ S rfl S0 ⟨rfl, hF_128⟩ (Below.refl _ _)
                refine RunAll.cons (isI .i64 c_298) [] rfl rfl ?_ ?_
                · intro W_ hW
                  have S1 := S
                  refine fill_nil S1 ?_; clear S1; intro a_ S1
                  have S0 := S.defers; replace S := S1; clear S1
                  refine wl_pure (l' := [(156, .int .i64 c_298), (17, .int .i64 c_298), (7, v_2), (10, v_34), (12, v_42), (14, .int .i64 x_67), (15, pB b_252)]) S tys tys_ok 1 (by kernel_rfl) ?_; clear S; intro a S
                  refine wpList_nil ?_
                  exact RPost.mk_ S rfl S0 ⟨rfl, G_299⟩ (Below.refl _ _)
                refine RunAll.cons (eqv (.pointer (some ((⟨b_252, 0, .none⟩ : Addr).add (c_298.toNat * GT.sz (.int .i64)))))) [(isI .i64 c_298, 156)] rfl rfl ?_ ?_
                · intro W_ hW
                  have S1 := S
                  rintro _ ⟨rfl, hF_357⟩
                  replace S1 := S1.put (by decide : 156 < 162) (.int .i64 c_298)
                  refine fill_nil S1 ?_; clear S1; intro a_ S1
                  replace B_253 := B_253.step hW
                  replace W := W.step hW
                  have S0 := S.defers; replace S := S1; clear S1
                  refine w_go S rfl (op_indexAddr_arr S rfl ty26 rfl rfl rfl B_253.at_ rfl ey_321 ?_)
                  clear S; intro a S
                  refine wpList_nil ?_
                  exact RPost.mk_ S rfl S0 rfl (Below.refl _ _)
                refine RunAll.cons (isI .i64 y_321) [(eqv (.pointer (some ((⟨b_252, 0, .none⟩ : Addr).add (c_298.toNat * GT.sz (.int .i64))))), 157)] rfl rfl ?_ ?_
                · intro W_ hW
                  have S1 := S
                  intro v_360 hF_359; obtain rfl : .pointer (some ((⟨b_252, 0, .none⟩ : Addr).add (c_298.toNat * GT.sz (.int .i64)))) = v_360 := Eq.symm hF_359
                  replace S1 := S1.put (by decide : 157 < 162) (.pointer (some ((⟨b_252, 0, .none⟩ : Addr).add (c_298.toNat * GT.sz (.int .i64)))))
                  refine fill_nil S1 ?_; clear S1; intro a_ S1
                  replace B_253 := B_253.step hW
                  have S0 := S.defers; replace S := S1; clear S1
                  refine w_go S rfl (op_load (t := (.int .i64)) (x := y_321) S rfl ty3 rfl rfl rfl (RepAt.ix B_253.at_ ey_321) ?_)
                  clear S; intro a v_361 R_362 S
                  obtain ⟨rfl, GR_362⟩ := RepV.int R_362
                  refine wpList_nil ?_
                  exact RPost.mk_ S rfl S0 ⟨rfl, GR_362⟩ (Below.refl _ _)
                refine RunAll.cons (isI .i64 x_324) [(isI .i64 x_67, 155), (isI .i64 y_321, 158)] rfl rfl ?_ ?_
                · intro W_ hW
                  have S1 := S
                  rintro _ ⟨rfl, hF_363⟩
                  replace S1 := S1.put (by decide : 155 < 162) (.int .i64 x_67)
                  rintro _ ⟨rfl, hF_365⟩
                  replace S1 := S1.put (by decide : 158 < 162) (.int .i64 y_321)
                  refine fill_nil S1 ?_; clear S1; intro a_ S1
                  have S0 := S.defers; replace S := S1; clear S1
                  refine w_go S rfl (op_arith S .i64 (x_67 * y_321) rfl (.inr (.inr rfl)) rfl rfl rfl rfl ex_324 ?_)
                  clear S; intro a S
                  refine wpList_nil ?_
                  exact RPost.mk_ S rfl S0 ⟨rfl, (ckI_some ex_324).2.1⟩ (Below.refl _ _)
                refine RunAll.cons (eqv (.bool (x_320 != x_324))) [(isI .i64 x_320, 154), (isI .i64 x_324, 159)] rfl rfl ?_ ?_
                · intro W_ hW
                  have S1 := S
                  rintro _ ⟨rfl, hF_367⟩
                  replace S1 := S1.put (by decide : 154 < 162) (.int .i64 x_320)
                  rintro _ ⟨rfl, hF_369⟩
                  replace S1 := S1.put (by decide : 159 < 162) (.int .i64 x_324)
                  refine fill_nil S1 ?_; clear S1; intro a_ S1
                  have S0 := S.defers; replace S := S1; clear S1
                  refine wl_pure (l' := [(160, .bool (x_320 != x_324)), (159, .int .i64 x_324), (154, .int .i64 x_320), (17, .int .i64 c_298), (7, v_2), (10, v_34), (12, v_42), (14, .int .i64 x_67), (15, pB b_252)]) S tys tys_ok 1 (by kernel_rfl) ?_; clear S; intro a S
                  refine wpList_nil ?_
                  exact RPost.mk_ S rfl S0 rfl (Below.refl _ _)
                exact trivial
              intro w_371 hb_372
              refine EndE.some_ rfl ?_
              intro v_374 hF_373; obtain rfl : v_42 = v_374 := Eq.symm hF_373
              replace S := S.put (by decide : 146 < 162) (v_42)
              refine EndE.some_ rfl ?_
              rintro _ ⟨rfl, hF_375⟩
              replace S := S.put (by decide : 147 < 162) (.int .i64 c_298)
              refine EndE.some_ rfl ?_
              rintro _ ⟨p_379, rfl, R_380, H_381⟩
              replace S := S.put (by decide : 148 < 162) (.pointer (some p_379))
              refine EndE.some_ rfl ?_
              rintro _ ⟨rfl, hF_382⟩
              replace S := S.put (by decide : 149 < 162) (.int .i64 y_308)
              refine EndE.some_ rfl ?_
              intro v_385 hF_384; obtain rfl : v_34 = v_385 := Eq.symm hF_384
              replace S := S.put (by decide : 150 < 162) (v_34)
              refine EndE.some_ rfl ?_
              rintro _ ⟨rfl, hF_386⟩
              replace S := S.put (by decide : 151 < 162) (.int .i64 c_298)
              refine EndE.some_ rfl ?_
              rintro _ ⟨p_390, rfl, R_391, H_392⟩
              replace S := S.put (by decide : 152 < 162) (.pointer (some p_390))
              refine EndE.some_ rfl ?_
              rintro _ ⟨rfl, hF_393⟩
              replace S := S.put (by decide : 153 < 162) (.int .i64 y_314)
              refine EndE.some_ rfl ?_
              rintro _ ⟨rfl, hF_395⟩
              replace S := S.put (by decide : 154 < 162) (.int .i64 x_320)
              refine EndE.some_ rfl ?_
              rintro _ ⟨rfl, hF_397⟩
              replace S := S.put (by decide : 155 < 162) (.int .i64 x_67)
              refine EndE.some_ rfl ?_
              rintro _ ⟨rfl, hF_399⟩
              replace S := S.put (by decide : 156 < 162) (.int .i64 c_298)
              refine EndE.some_ rfl ?_
              intro v_402 hF_401; obtain rfl : .pointer (some ((⟨b_252, 0, .none⟩ : Addr).add (c_298.toNat * GT.sz (.int .i64)))) = v_402 := Eq.symm hF_401
              replace S := S.put (by decide : 157 < 162) (.pointer (some ((⟨b_252, 0, .none⟩ : Addr).add (c_298.toNat * GT.sz (.int .i64)))))
              refine EndE.some_ rfl ?_
              rintro _ ⟨rfl, hF_403⟩
              replace S := S.put (by decide : 158 < 162) (.int .i64 y_321)
              refine EndE.some_ rfl ?_
              rintro _ ⟨rfl, hF_405⟩
              replace S := S.put (by decide : 159 < 162) (.int .i64 x_324)
              refine EndE.some_ rfl ?_
              intro v_408 hF_407; obtain rfl : .bool (x_320 != x_324) = v_408 := Eq.symm hF_407
              replace S := S.put (by decide : 160 < 162) (.bool (x_320 != x_324))
              refine endE_nil S ?_; clear S; intro a S
              replace R_18 := R_18.step hb_372
              replace B_253 := B_253.step hb_372
              replace R_36 := R_36.step hb_372
              replace R_44 := R_44.step hb_372
              replace W := W.step hb_372
              refine then_n ?_
              replace S := S.sub (l' := [(160, .bool (x_320 != x_324)), (17, .int .i64 c_298), (7, v_2), (10, v_34), (12, v_42), (14, .int .i64 x_67), (15, pB b_252)]) (by exact ⟨rfl, rfl, rfl, rfl, rfl, rfl, rfl, trivial⟩)
              refine wp_cond_split (S.eval (show ev _ _ = some (.bool (x_320 != x_324)) from rfl)) ?_ ?_
              · intro hc
                rw [if_pos hc] at hl_305
                refine wp_seq ?_
                refine wp_region_lit ?_
                refine wl_pureK (l' := [(6, .bool false)]) S tys tys_ok 1 [6] (by kernel_rfl) ?_
                clear S; intro a S
                refine wpList_nil ?_
                refine then_n ?_
                refine wp_ret ?_
                refine blk_r ?_
                refine then_r ?_
                refine then_r ?_
                refine blk_r ?_
                refine then_r ?_
                refine then_r ?_
                obtain rfl := Option.some.inj hl_305
                obtain rfl := lr_inr h
                exact b_ret1 S rfl rfl ⟨_, rfl, RepV.mkBool, W.below⟩
              · intro hc
                rw [if_neg (Bool.eq_false_iff.1 hc)] at hl_305
                refine wp_skip ?_
                refine blk_n ?_
                refine then_n ?_
                replace S := S.sub (l' := [(17, .int .i64 c_298), (7, v_2), (10, v_34), (12, v_42), (14, .int .i64 x_67), (15, pB b_252)]) (by exact ⟨rfl, rfl, rfl, rfl, rfl, rfl, trivial⟩)
                refine wp_region_lit ?_
                refine wl_pure (l' := [(144, .int .i64 c_298), (17, .int .i64 c_298), (7, v_2), (10, v_34), (12, v_42), (14, .int .i64 x_67), (15, pB b_252)]) S tys tys_ok 1 (by kernel_rfl) ?_
                clear S; intro a S
                obtain ⟨x_409, ex_409, hl_305⟩ := bindS hl_305
                refine w_go S rfl (op_arith S .i64 (c_298 + 1) rfl (.inl rfl) rfl rfl rfl rfl ex_409 ?_)
                clear S; intro a S
                refine wl_pure (l' := [(17, .int .i64 x_409), (145, .int .i64 x_409), (144, .int .i64 c_298), (17, .int .i64 c_298), (7, v_2), (10, v_34), (12, v_42), (14, .int .i64 x_67), (15, pB b_252)]) S tys tys_ok 1 (by kernel_rfl) ?_
                clear S; intro a S
                refine wpList_nil ?_
                refine then_n ?_
                exact ⟨x_409, ⟨S.sub (by exact ⟨rfl, rfl, rfl, rfl, rfl, rfl, trivial⟩), W, (ckI_some ex_409).2.1, R_18, B_253, R_36, R_44, hl_305⟩⟩
            · intro hc
              rw [if_neg (Bool.eq_false_iff.1 hc)] at hl_305
              refine wp_exit ?_
              refine then_x ?_
              refine then_x ?_
              refine blk_hit ?_
              refine then_n ?_
              obtain rfl := Option.some.inj hl_305
              exact ⟨_, rfl, ⟨S.sub trivial, W, B_253⟩⟩
      clear S W; rintro a w_410 ⟨s_303, rfl, S, W, B_253⟩
      replace h := lr_inl h; try dsimp only at h
      refine then_n ?_
      refine wp_seq ?_
      refine wp_region_lit ?_
      obtain ⟨t_411, et_411, h⟩ := bindS h
      refine w_go S rfl (op_call (vs := []) S rfl cb19 rfl rfl rfl (c19 (Kx K w.heap.size [some b_252, v_42.ownBlock, v_34.ownBlock]) n w_410  et_411) ?_)
      rintro _ w_415 ⟨v_412, rfl, R_413, hb_414⟩; refine ⟨_, rfl, ?_⟩
      replace R_413 := RepV.back R_413 W
      clear S; intro a S
      replace B_253 := B_253.step hb_414
      replace W := W.step hb_414
      obtain rfl := RepV.bool R_413
      refine wl_pure (l' := [(6, .bool t_411), (161, .bool t_411)]) S tys tys_ok 1 (by kernel_rfl) ?_
      clear S; intro a S
      refine wpList_nil ?_
      refine then_n ?_
      replace S := S.sub (l' := [(6, .bool t_411)]) (by exact ⟨rfl, trivial⟩)
      refine wp_ret ?_
      obtain rfl := Option.some.inj h
      exact b_ret1 S rfl rfl ⟨_, rfl, RepV.mkBool, W.below⟩

end Go.Proofs.Ytnelgpgmggcdcaa
