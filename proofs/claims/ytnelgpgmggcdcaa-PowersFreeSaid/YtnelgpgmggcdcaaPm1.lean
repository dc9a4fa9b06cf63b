/- Functions of the program, as plain data. -/
import Derived.Test.YtnelgpgmggcdcaaP3
set_option linter.unusedVariables false
set_option linter.unusedSimpArgs false
namespace Go.Proofs.Ytnelgpgmggcdcaa
open Go.RowKit

def p23_l1 (n : Nat) (x1 : Int) (x2 : Int) (l_34 : List (Int × Int × Bool × Bool × Bool × Bool × Int)) (y_39 : Int × Int × Bool × Bool × Bool × Bool × Int) (y_47 : Int × Int × Bool × Bool × Bool × Bool × Int) (y_55 : Int × Int × Bool × Bool × Bool × Bool × Int) : Nat → (Int) → Option ((Unit) ⊕ ((Int)))
  | 0, _ => .none
  | m + 1, c_67 => if (decide (c_67 ≥ 0)) then ((p10 n (⟨(((l_34.set x1.toNat (y_39.1, y_39.2.1, y_39.2.2.1, y_39.2.2.2.1, true, y_39.2.2.2.2.2.1, y_39.2.2.2.2.2.2)).set x1.toNat (y_47.1, y_47.2.1, y_47.2.2.1, y_47.2.2.2.1, y_47.2.2.2.2.1, false, y_47.2.2.2.2.2.2)).set x1.toNat (y_55.1, y_55.2.1, y_55.2.2.1, y_55.2.2.2.1, y_55.2.2.2.2.1, y_55.2.2.2.2.2.1, x2)), capA (some 0) l_34.length⟩ : Sl (Int × Int × Bool × Bool × Bool × Bool × Int)) c_67 (List.replicate 128 (0 : Int))).bind fun t_78 => (p11 n (⟨(((l_34.set x1.toNat (y_39.1, y_39.2.1, y_39.2.2.1, y_39.2.2.2.1, true, y_39.2.2.2.2.2.1, y_39.2.2.2.2.2.2)).set x1.toNat (y_47.1, y_47.2.1, y_47.2.2.1, y_47.2.2.2.1, y_47.2.2.2.2.1, false, y_47.2.2.2.2.2.2)).set x1.toNat (y_55.1, y_55.2.1, y_55.2.2.1, y_55.2.2.2.1, y_55.2.2.2.2.1, y_55.2.2.2.2.2.1, x2)), capA (some 0) l_34.length⟩ : Sl (Int × Int × Bool × Bool × Bool × Bool × Int)) c_67).bind fun t_83 => if (decide (t_78 > t_83)) then (some (.inr 0)) else (idx (((l_34.set x1.toNat (y_39.1, y_39.2.1, y_39.2.2.1, y_39.2.2.2.1, true, y_39.2.2.2.2.2.1, y_39.2.2.2.2.2.2)).set x1.toNat (y_47.1, y_47.2.1, y_47.2.2.1, y_47.2.2.2.1, y_47.2.2.2.2.1, false, y_47.2.2.2.2.2.2)).set x1.toNat (y_55.1, y_55.2.1, y_55.2.2.1, y_55.2.2.2.1, y_55.2.2.2.2.1, y_55.2.2.2.2.2.1, x2)) c_67).bind fun y_88 => p23_l1 n x1 x2 l_34 y_39 y_47 y_55 m y_88.1) else some (.inl ())
def p23 (n : Nat) (x0 : Sl (Int × Int × Bool × Bool × Bool × Bool × Int)) (x1 : Int) (x2 : Int) : Option ((Int)) :=
  (if (decide (x1 < 0)) = false then some (decide (x1 ≥ (lenI x0))) else some true).bind fun q_1 =>
  (if q_1 = false then some (decide (x2 < 0)) else some true).bind fun q_3 =>
  (if q_3 = false then some (decide (x2 > 500)) else some true).bind fun q_4 =>
  if q_4 then (some 2) else (p26 n x0 x1).bind fun t_5 => (if (t_5 == 0) = false then (idx x0.xs x1).bind fun y_11 => (if (decide (y_11.1 ≥ 0)) = true then (idx x0.xs x1).bind fun y_18 => (idx x0.xs y_18.1).bind fun y_24 => some y_24.2.2.2.2.2.1 else some false).bind fun q_17 => some q_17 else some true).bind fun q_10 => if q_10 then (some 2) else (appI ([] : List (Int × Int × Bool × Bool × Bool × Bool × Int)) x0.xs).bind fun l_34 => (idx l_34 x1).bind fun y_39 => (idx (l_34.set x1.toNat (y_39.1, y_39.2.1, y_39.2.2.1, y_39.2.2.2.1, true, y_39.2.2.2.2.2.1, y_39.2.2.2.2.2.2)) x1).bind fun y_47 => (idx ((l_34.set x1.toNat (y_39.1, y_39.2.1, y_39.2.2.1, y_39.2.2.2.1, true, y_39.2.2.2.2.2.1, y_39.2.2.2.2.2.2)).set x1.toNat (y_47.1, y_47.2.1, y_47.2.2.1, y_47.2.2.2.1, y_47.2.2.2.2.1, false, y_47.2.2.2.2.2.2)) x1).bind fun y_55 => (p23_l1 n x1 x2 l_34 y_39 y_47 y_55 n x1).bind fun (y_71 : (Unit) ⊕ ((Int))) => lrK y_71 some fun (s_72 : Unit) => some 1
set_option maxHeartbeats 4000000 in
set_option maxRecDepth 100000 in
/-- plugboard/plugboardlaw19.admitted -/
theorem c23 (K : Nat → Prop) (n : Nat) (w : World) (x0 : Sl (Int × Int × Bool × Bool × Bool × Bool × Int)) (v0 : Value) (R0 : RepV (.sl gt1) w K v0 x0) (x1 : Int) (G1 : InR .i64 x1) (x2 : Int) (G2 : InR .i64 x2) {r : (Int)} (h : p23 n x0 x1 x2 = some r) :
    Calls Try.prog 23 #[v0, .int .i64 x1, .int .i64 x2] w (Ret1 (.int .i64) w (Kx K w.heap.size []) r) := by
  refine enter (args := [v0, .int .i64 x1, .int .i64 x2]) Try.func23 rfl 81 rfl rfl fun a S => ?_
  have W := Wd.start w
  replace R0 := R0.arg
  unfold p23 at h
  replace S : St 81 a [(0, v0), (1, .int .i64 x1), (2, .int .i64 x2)] := S
  refine wp_seq ?_
  refine wp_region_lit ?_
  refine wl_pure (l' := [(6, .int .i64 0), (0, v0), (1, .int .i64 x1), (2, .int .i64 x2)]) S tys tys_ok 1 (by kernel_rfl) ?_
  clear S; intro a S
  refine wpList_nil ?_
  refine then_n ?_
  replace S := S.sub (l' := [(0, v0), (1, .int .i64 x1), (2, .int .i64 x2)]) (by exact ⟨rfl, rfl, rfl, trivial⟩)
  refine wp_seq ?_
  refine wp_seq ?_
  refine wp_region_lit ?_
  refine wl_pure (l' := [(12, .bool (decide (x1 < 0))), (11, .bool (decide (x1 < 0))), (10, .int .i64 x1), (0, v0), (1, .int .i64 x1), (2, .int .i64 x2)]) S tys tys_ok 3 (by kernel_rfl) ?_
  clear S; intro a S
  obtain ⟨q_1, eq_1, h⟩ := bindS h
  refine seg 5 (fun a_ w_ => w = w_ ∧ St 81 a_ [(17, .bool q_1), (0, v0), (1, .int .i64 x1), (2, .int .i64 x2)]) ?_ ?_
  · by_cases hc : (decide (x1 < 0)) = false
    · rw [if_pos hc] at eq_1; rw [hc] at S
      refine wl_pure (l' := [(14, v0), (13, .int .i64 x1), (12, .bool false), (11, .bool false), (10, .int .i64 x1), (0, v0), (1, .int .i64 x1), (2, .int .i64 x2)]) S tys tys_ok 2 (by kernel_rfl) ?_
      clear S; intro a S
      refine w_go S rfl (op_len (K := _) S rfl ty24 rfl rfl rfl R0 ?_)
      clear S; intro a G_2 S
      refine wl_pureK (l' := [(17, .bool (decide (x1 ≥ (lenI x0)))), (0, v0), (1, .int .i64 x1), (2, .int .i64 x2)]) S tys tys_ok 2 [17, 0, 1, 2] (by kernel_rfl) ?_
      clear S; intro a S
      obtain rfl := Option.some.inj eq_1
      exact ⟨rfl, S.sub (by exact ⟨rfl, rfl, rfl, rfl, trivial⟩)⟩
    · rw [if_neg hc] at eq_1; rw [show (decide (x1 < 0)) = true from (by simpa using hc)] at S
      refine wl_pureK (l' := [(17, .bool true), (0, v0), (1, .int .i64 x1), (2, .int .i64 x2)]) S tys tys_ok 5 [17, 0, 1, 2] (by kernel_rfl) ?_
      clear S; intro a S
      obtain rfl := Option.some.inj eq_1
      exact ⟨rfl, S.sub (by exact ⟨rfl, rfl, rfl, rfl, trivial⟩)⟩
  clear S eq_1; rintro a _ ⟨rfl, S⟩
  refine wl_pure (l' := [(18, .bool q_1), (17, .bool q_1), (0, v0), (1, .int .i64 x1), (2, .int .i64 x2)]) S tys tys_ok 1 (by kernel_rfl) ?_
  clear S; intro a S
  obtain ⟨q_3, eq_3, h⟩ := bindS h
  refine seg 3 (fun a_ w_ => w = w_ ∧ St 81 a_ [(21, .bool q_3), (0, v0), (1, .int .i64 x1), (2, .int .i64 x2)]) ?_ ?_
  · by_cases hc : q_1 = false
    · rw [if_pos hc] at eq_3; rw [hc] at S
      refine wl_pureK (l' := [(21, .bool (decide (x2 < 0))), (0, v0), (1, .int .i64 x1), (2, .int .i64 x2)]) S tys tys_ok 3 [21, 0, 1, 2] (by kernel_rfl) ?_
      clear S; intro a S
      obtain rfl := Option.some.inj eq_3
      exact ⟨rfl, S.sub (by exact ⟨rfl, rfl, rfl, rfl, trivial⟩)⟩
    · rw [if_neg hc] at eq_3; rw [show q_1 = true from (by simpa using hc)] at S
      refine wl_pureK (l' := [(21, .bool true), (0, v0), (1, .int .i64 x1), (2, .int .i64 x2)]) S tys tys_ok 3 [21, 0, 1, 2] (by kernel_rfl) ?_
      clear S; intro a S
      obtain rfl := Option.some.inj eq_3
      exact ⟨rfl, S.sub (by exact ⟨rfl, rfl, rfl, rfl, trivial⟩)⟩
  clear S eq_3; rintro a _ ⟨rfl, S⟩
  refine wl_pure (l' := [(22, .bool q_3), (21, .bool q_3), (0, v0), (1, .int .i64 x1), (2, .int .i64 x2)]) S tys tys_ok 1 (by kernel_rfl) ?_
  clear S; intro a S
  obtain ⟨q_4, eq_4, h⟩ := bindS h
  refine seg 3 (fun a_ w_ => w = w_ ∧ St 81 a_ [(25, .bool q_4), (0, v0), (1, .int .i64 x1), (2, .int .i64 x2)]) ?_ ?_
  · by_cases hc : q_3 = false
    · rw [if_pos hc] at eq_4; rw [hc] at S
      refine wl_pureK (l' := [(25, .bool (decide (x2 > 500))), (0, v0), (1, .int .i64 x1), (2, .int .i64 x2)]) S tys tys_ok 3 [25, 0, 1, 2] (by kernel_rfl) ?_
      clear S; intro a S
      obtain rfl := Option.some.inj eq_4
      exact ⟨rfl, S.sub (by exact ⟨rfl, rfl, rfl, rfl, trivial⟩)⟩
    · rw [if_neg hc] at eq_4; rw [show q_3 = true from (by simpa using hc)] at S
      refine wl_pureK (l' := [(25, .bool true), (0, v0), (1, .int .i64 x1), (2, .int .i64 x2)]) S tys tys_ok 3 [25, 0, 1, 2] (by kernel_rfl) ?_
      clear S; intro a S
      obtain rfl := Option.some.inj eq_4
      exact ⟨rfl, S.sub (by exact ⟨rfl, rfl, rfl, rfl, trivial⟩)⟩
  clear S eq_4; rintro a _ ⟨rfl, S⟩
  refine wpList_nil ?_
  refine then_n ?_
  refine wp_cond_split (S.eval (show ev _ _ = some (.bool q_4) from rfl)) ?_ ?_
  · intro hc
    rw [if_pos hc] at h
    refine wp_seq ?_
    refine wp_region_lit ?_
    refine wl_pureK (l' := [(6, .int .i64 2)]) S tys tys_ok 1 [6] (by kernel_rfl) ?_
    clear S; intro a S
    refine wpList_nil ?_
    refine then_n ?_
    refine wp_ret ?_
    refine then_r ?_
    obtain rfl := Option.some.inj h
    exact b_ret1 S rfl rfl ⟨_, rfl, (RepV.mkInt (by decide)), W.below⟩
  · intro hc
    rw [if_neg (Bool.eq_false_iff.1 hc)] at h
    refine wp_skip ?_
    refine then_n ?_
    replace S := S.sub (l' := [(0, v0), (1, .int .i64 x1), (2, .int .i64 x2)]) (by exact ⟨rfl, rfl, rfl, trivial⟩)
    refine wp_seq ?_
    refine wp_seq ?_
    refine wp_region_lit ?_
    refine wl_pure (l' := [(27, .int .i64 x1), (26, v0), (0, v0), (1, .int .i64 x1), (2, .int .i64 x2)]) S tys tys_ok 2 (by kernel_rfl) ?_
    clear S; intro a S
    obtain ⟨t_5, et_5, h⟩ := bindS h
    refine w_go S rfl (op_call (vs := [v0, .int .i64 x1]) S rfl cb26 rfl rfl rfl (c26 (Kx K w.heap.size []) n w x0 _ R0 x1 G1 et_5) ?_)
    rintro _ w_9 ⟨v_6, rfl, R_7, hb_8⟩; refine ⟨_, rfl, ?_⟩
    replace R_7 := RepV.back R_7 W
    clear S; intro a S
    replace R0 := R0.step hb_8
    replace W := W.step hb_8
    obtain ⟨rfl, GR_7⟩ := RepV.int R_7
    refine wl_pureK (l' := [(30, .bool (t_5 == 0)), (0, v0), (1, .int .i64 x1), (2, .int .i64 x2)]) S tys tys_ok 2 [30, 0, 1, 2] (by kernel_rfl) ?_
    clear S; intro a S
    obtain ⟨q_10, eq_10, h⟩ := bindS h
    refine seg 18 (fun a_ w_ => w_9 = w_ ∧ St 81 a_ [(48, .bool q_10), (0, v0), (1, .int .i64 x1), (2, .int .i64 x2)]) ?_ ?_
    · by_cases hc : (t_5 == 0) = false
      · rw [if_pos hc] at eq_10; rw [hc] at S
        refine wl_pure (l' := [(32, .int .i64 x1), (31, v0), (30, .bool false), (0, v0), (1, .int .i64 x1), (2, .int .i64 x2)]) S tys tys_ok 2 (by kernel_rfl) ?_
        clear S; intro a S
        obtain ⟨y_11, ey_11, eq_10⟩ := bindS eq_10
        refine w_go S rfl (op_indexAddr S rfl ty24 rfl rfl rfl R0 rfl ey_11 ?_)
        clear S; intro a p_12 R_13 H_14 S
        refine wl_pureK (l' := [(34, .pointer (some (p_12.add (coff gf1 0)))), (30, .bool false), (0, v0), (1, .int .i64 x1), (2, .int .i64 x2)]) S tys tys_ok 1 [34, 30, 0, 1, 2] (by kernel_rfl) ?_
        clear S; intro a S
        refine w_go S rfl (op_load (t := (.int .i64)) (x := y_11.1) S rfl ty3 rfl rfl rfl (RepAt.add 0 (RepAt.st (t := gf1) R_13)) ?_)
        clear S; intro a v_15 R_16 S
        obtain ⟨rfl, GR_16⟩ := RepV.int R_16
        refine wl_pureK (l' := [(37, .bool (decide (y_11.1 ≥ 0))), (30, .bool false), (0, v0), (1, .int .i64 x1), (2, .int .i64 x2)]) S tys tys_ok 2 [37, 30, 0, 1, 2] (by kernel_rfl) ?_
        clear S; intro a S
        obtain ⟨q_17, eq_17, eq_10⟩ := bindS eq_10
        refine seg 10 (fun a_ w_ => w_9 = w_ ∧ St 81 a_ [(47, .bool q_17), (30, .bool false), (0, v0), (1, .int .i64 x1), (2, .int .i64 x2)]) ?_ ?_
        · by_cases hc : (decide (y_11.1 ≥ 0)) = true
          · rw [if_pos hc] at eq_17; rw [hc] at S
            refine wl_pure (l' := [(40, .int .i64 x1), (39, v0), (38, v0), (37, .bool true), (30, .bool false), (0, v0), (1, .int .i64 x1), (2, .int .i64 x2)]) S tys tys_ok 3 (by kernel_rfl) ?_
            clear S; intro a S
            obtain ⟨y_18, ey_18, eq_17⟩ := bindS eq_17
            refine w_go S rfl (op_indexAddr S rfl ty24 rfl rfl rfl R0 rfl ey_18 ?_)
            clear S; intro a p_19 R_20 H_21 S
            refine wl_pureK (l' := [(42, .pointer (some (p_19.add (coff gf1 0)))), (38, v0), (37, .bool true), (30, .bool false), (0, v0), (1, .int .i64 x1), (2, .int .i64 x2)]) S tys tys_ok 1 [42, 38, 37, 30, 0, 1, 2] (by kernel_rfl) ?_
            clear S; intro a S
            refine w_go S rfl (op_load (t := (.int .i64)) (x := y_18.1) S rfl ty3 rfl rfl rfl (RepAt.add 0 (RepAt.st (t := gf1) R_20)) ?_)
            clear S; intro a v_22 R_23 S
            obtain ⟨rfl, GR_23⟩ := RepV.int R_23
            obtain ⟨y_24, ey_24, eq_17⟩ := bindS eq_17
            refine w_go S rfl (op_indexAddr S rfl ty24 rfl rfl rfl R0 rfl ey_24 ?_)
            clear S; intro a p_25 R_26 H_27 S
            refine wl_pureK (l' := [(45, .pointer (some (p_25.add (coff gf1 5)))), (37, .bool true), (30, .bool false), (0, v0), (1, .int .i64 x1), (2, .int .i64 x2)]) S tys tys_ok 1 [45, 37, 30, 0, 1, 2] (by kernel_rfl) ?_
            clear S; intro a S
            refine w_go S rfl (op_load (t := .bool) (x := y_24.2.2.2.2.2.1) S rfl ty4 rfl rfl rfl (RepAt.add 5 (RepAt.st (t := gf1) R_26)) ?_)
            clear S; intro a v_28 R_29 S
            obtain rfl := RepV.bool R_29
            refine wl_pureK (l' := [(47, .bool y_24.2.2.2.2.2.1), (30, .bool false), (0, v0), (1, .int .i64 x1), (2, .int .i64 x2)]) S tys tys_ok 1 [47, 30, 0, 1, 2] (by kernel_rfl) ?_
            clear S; intro a S
            obtain rfl := Option.some.inj eq_17
            exact ⟨rfl, S.sub (by exact ⟨rfl, rfl, rfl, rfl, rfl, trivial⟩)⟩
          · rw [if_neg hc] at eq_17; rw [show (decide (y_11.1 ≥ 0)) = false from Bool.eq_false_iff.2 hc] at S
            refine wl_pureK (l' := [(47, .bool false), (30, .bool false), (0, v0), (1, .int .i64 x1), (2, .int .i64 x2)]) S tys tys_ok 10 [47, 30, 0, 1, 2] (by kernel_rfl) ?_
            clear S; intro a S
            obtain rfl := Option.some.inj eq_17
            exact ⟨rfl, S.sub (by exact ⟨rfl, rfl, rfl, rfl, rfl, trivial⟩)⟩
        clear S eq_17; rintro a _ ⟨rfl, S⟩
        refine wl_pure (l' := [(48, .bool q_17), (47, .bool q_17), (30, .bool false), (0, v0), (1, .int .i64 x1), (2, .int .i64 x2)]) S tys tys_ok 1 (by kernel_rfl) ?_
        clear S; intro a S
        obtain rfl := Option.some.inj eq_10
        exact ⟨rfl, S.sub (by exact ⟨rfl, rfl, rfl, rfl, trivial⟩)⟩
      · rw [if_neg hc] at eq_10; rw [show (t_5 == 0) = true from (by simpa using hc)] at S
        refine wl_pureK (l' := [(48, .bool true), (0, v0), (1, .int .i64 x1), (2, .int .i64 x2)]) S tys tys_ok 18 [48, 0, 1, 2] (by kernel_rfl) ?_
        clear S; intro a S
        obtain rfl := Option.some.inj eq_10
        exact ⟨rfl, S.sub (by exact ⟨rfl, rfl, rfl, rfl, trivial⟩)⟩
    clear S eq_10; rintro a _ ⟨rfl, S⟩
    refine wpList_nil ?_
    refine then_n ?_
    refine wp_cond_split (S.eval (show ev _ _ = some (.bool q_10) from rfl)) ?_ ?_
    · intro hc
      rw [if_pos hc] at h
      refine wp_seq ?_
      refine wp_region_lit ?_
      refine wl_pureK (l' := [(6, .int .i64 2)]) S tys tys_ok 1 [6] (by kernel_rfl) ?_
      clear S; intro a S
      refine wpList_nil ?_
      refine then_n ?_
      refine wp_ret ?_
      refine then_r ?_
      obtain rfl := Option.some.inj h
      exact b_ret1 S rfl rfl ⟨_, rfl, (RepV.mkInt (by decide)), W.below⟩
    · intro hc
      rw [if_neg (Bool.eq_false_iff.1 hc)] at h
      refine wp_skip ?_
      refine then_n ?_
      replace S := S.sub (l' := [(0, v0), (1, .int .i64 x1), (2, .int .i64 x2)]) (by exact ⟨rfl, rfl, rfl, trivial⟩)
      refine wp_seq ?_
      refine wp_region_lit ?_
      refine w_go S rfl (op_row0 (K := K) (e := gt1) (E := 32) S W rfl ty24 un24 rfl rfl ?_)
      clear S; intro a w_31 b_30 hb_32 O_33 S
      replace R0 := R0.box hb_32
      replace W := W.box hb_32
      replace O_33 : Ow gt1 32 w_31 w.heap.size (Kx K w.heap.size [some b_30]) (.slice (some ⟨b_30, 0, .none⟩) 0 0) ([] : List (Int × Int × Bool × Bool × Bool × Bool × Int)) (some 0) := O_33
      refine wl_pure (l' := [(50, v0), (49, (.slice (some ⟨b_30, 0, .none⟩) 0 0)), (0, v0), (1, .int .i64 x1), (2, .int .i64 x2)]) S tys tys_ok 1 (by kernel_rfl) ?_
      clear S; intro a S
      obtain ⟨l_34, el_34, h⟩ := bindS h
      refine w_go S rfl (op_append S W (E := 32) 0 rfl ty24 un24 by24 rfl rfl rfl rfl O_33 rfl R0 el_34 ?_)
      clear S; intro a w_36 v_35 A_37 O_38 S
      replace R0 : RepV (.sl gt1) w_36 (Kx K w.heap.size [v_35.ownBlock]) v0 x0 := R0.apd A_37 (i := 0) rfl
      replace W : Wd w w_36 [v_35.ownBlock] := W.apd A_37 (i := 0) rfl
      replace O_38 : Ow gt1 32 w_36 w.heap.size (Kx K w.heap.size [v_35.ownBlock]) v_35 l_34 (capA (some 0) l_34.length) := O_38
      refine wl_pureK (l' := [(7, v_35), (1, .int .i64 x1), (2, .int .i64 x2)]) S tys tys_ok 1 [7, 1, 2] (by kernel_rfl) ?_
      clear S; intro a S
      refine wpList_nil ?_
      refine then_n ?_
      refine wp_seq ?_
      refine wp_region_lit ?_
      refine wl_pure (l' := [(58, .int .i64 x2), (57, .int .i64 x1), (56, v_35), (55, .int .i64 x1), (54, v_35), (53, .int .i64 x1), (52, v_35), (7, v_35), (1, .int .i64 x1), (2, .int .i64 x2)]) S tys tys_ok 7 (by kernel_rfl) ?_
      clear S; intro a S
      obtain ⟨y_39, ey_39, h⟩ := bindS h
      refine w_go S rfl (op_indexAddr_own S rfl ty24 rfl rfl rfl O_38 rfl ey_39 ?_)
      clear S; intro a g_40 H_42 R_41 S
      refine wl_pureK (l' := [(60, .pointer (some ((⟨g_40, x1.toNat * GT.sz gt1, .none⟩ : Addr).add (coff gf1 4)))), (58, .int .i64 x2), (57, .int .i64 x1), (56, v_35), (55, .int .i64 x1), (54, v_35), (7, v_35), (1, .int .i64 x1)]) S tys tys_ok 1 [60, 58, 57, 56, 55, 54, 7, 1] (by kernel_rfl) ?_
      clear S; intro a S
      refine w_go S rfl (op_store_own (t' := .bool) S rfl rfl ty4 rfl (addr_add _ _ _) rfl O_38 H_42 0 rfl (idx_some ey_39).2.1 (Ln.st (Ln.comp 4)) (RepV.mkBool : RepV .bool w_36 (Kx K w.heap.size [v_35.ownBlock]) _ true) ?_)
      intro w_43 hw_44 hm_46 O_45
      replace W := W.wrote hw_44 hm_46
      replace O_45 : Ow gt1 32 w_43 w.heap.size (Kx K w.heap.size [v_35.ownBlock]) v_35 (l_34.set x1.toNat (y_39.1, y_39.2.1, y_39.2.2.1, y_39.2.2.2.1, true, y_39.2.2.2.2.2.1, y_39.2.2.2.2.2.2)) (capA (some 0) l_34.length) := O_45
      obtain ⟨y_47, ey_47, h⟩ := bindS h
      refine w_go S rfl (op_indexAddr_own S rfl ty24 rfl rfl rfl O_45 rfl ey_47 ?_)
      clear S; intro a g_48 H_50 R_49 S
      refine wl_pureK (l' := [(62, .pointer (some ((⟨g_48, x1.toNat * GT.sz gt1, .none⟩ : Addr).add (coff gf1 5)))), (58, .int .i64 x2), (57, .int .i64 x1), (56, v_35), (7, v_35), (1, .int .i64 x1)]) S tys tys_ok 1 [62, 58, 57, 56, 7, 1] (by kernel_rfl) ?_
      clear S; intro a S
      refine w_go S rfl (op_store_own (t' := .bool) S rfl rfl ty4 rfl (addr_add _ _ _) rfl O_45 H_50 0 rfl (idx_some ey_47).2.1 (Ln.st (Ln.comp 5)) (RepV.mkBool : RepV .bool w_43 (Kx K w.heap.size [v_35.ownBlock]) _ false) ?_)
      intro w_51 hw_52 hm_54 O_53
      replace W := W.wrote hw_52 hm_54
      replace O_53 : Ow gt1 32 w_51 w.heap.size (Kx K w.heap.size [v_35.ownBlock]) v_35 ((l_34.set x1.toNat (y_39.1, y_39.2.1, y_39.2.2.1, y_39.2.2.2.1, true, y_39.2.2.2.2.2.1, y_39.2.2.2.2.2.2)).set x1.toNat (y_47.1, y_47.2.1, y_47.2.2.1, y_47.2.2.2.1, y_47.2.2.2.2.1, false, y_47.2.2.2.2.2.2)) (capA (some 0) l_34.length) := O_53
      obtain ⟨y_55, ey_55, h⟩ := bindS h
      refine w_go S rfl (op_indexAddr_own S rfl ty24 rfl rfl rfl O_53 rfl ey_55 ?_)
      clear S; intro a g_56 H_58 R_57 S
      refine wl_pureK (l' := [(64, .pointer (some ((⟨g_56, x1.toNat * GT.sz gt1, .none⟩ : Addr).add (coff gf1 6)))), (58, .int .i64 x2), (7, v_35), (1, .int .i64 x1)]) S tys tys_ok 1 [64, 58, 7, 1] (by kernel_rfl) ?_
      clear S; intro a S
      refine w_go S rfl (op_store_own (t' := (.int .i64)) S rfl rfl ty3 rfl (addr_add _ _ _) rfl O_53 H_58 0 rfl (idx_some ey_55).2.1 (Ln.st (Ln.comp 6)) ((RepV.mkInt G2) : RepV (.int .i64) w_51 (Kx K w.heap.size [v_35.ownBlock]) _ x2) ?_)
      intro w_59 hw_60 hm_62 O_61
      replace W := W.wrote hw_60 hm_62
      replace O_61 : Ow gt1 32 w_59 w.heap.size (Kx K w.heap.size [v_35.ownBlock]) v_35 (((l_34.set x1.toNat (y_39.1, y_39.2.1, y_39.2.2.1, y_39.2.2.2.1, true, y_39.2.2.2.2.2.1, y_39.2.2.2.2.2.2)).set x1.toNat (y_47.1, y_47.2.1, y_47.2.2.1, y_47.2.2.2.1, y_47.2.2.2.2.1, false, y_47.2.2.2.2.2.2)).set x1.toNat (y_55.1, y_55.2.1, y_55.2.2.1, y_55.2.2.2.1, y_55.2.2.2.2.1, y_55.2.2.2.2.2.1, x2)) (capA (some 0) l_34.length) := O_61
      refine wpList_nil ?_
      refine then_n ?_
      replace S := S.sub (l' := [(7, v_35), (1, .int .i64 x1)]) (by exact ⟨rfl, rfl, trivial⟩)
      refine wp_seq ?_
      refine wp_region_lit ?_
      refine w_go S rfl (op_alloc (K := K) (n := w.heap.size) (L := [v_35.ownBlock]) (t := (.arr 128 (.int .i64))) (y := (List.replicate 128 (0 : Int))) S rfl rfl rfl _ z26 (fun w K => (rep_replicate (e := (.int .i64)) (z := 0) (cs := [.int .i64 0]) (⟨rfl, by decide⟩) 128)) ?_)
      clear S; intro a w_65 b_63 hb_66 B_64 S
      replace O_61 := O_61.box hb_66
      replace W := W.box hb_66
      refine wpList_nil ?_
      refine then_n ?_
      refine wp_seq ?_
      refine wp_seq ?_
      refine wp_region_lit ?_
      refine wl_pure (l' := [(9, .int .i64 x1), (65, .int .i64 x1), (8, pB b_63), (7, v_35), (1, .int .i64 x1)]) S tys tys_ok 2 (by kernel_rfl) ?_
      clear S; intro a S
      refine wpList_nil ?_
      refine then_n ?_
      replace S := S.sub (l' := [(9, .int .i64 x1), (8, pB b_63), (7, v_35)]) (by exact ⟨rfl, rfl, rfl, trivial⟩)
      obtain ⟨y_71, ey_71, h⟩ := bindS h
      refine wp_cut_ (fun a_ w_ => ∃ s_72 : Unit, y_71 = .inl s_72 ∧ (St 81 a_ [] ∧ Wd w w_ [some b_63, v_35.ownBlock] ∧ Bx (.arr 128 (.int .i64)) 26 w_ (Kx K w.heap.size [some b_63, v_35.ownBlock]) b_63 (List.replicate 128 (0 : Int)))) ?_ ?_
      · refine wp_block ?_
        refine wp_loop_n (fun m_ a_ w_ => ∃ (c_67 : Int) , St 81 a_ [(9, .int .i64 c_67), (8, pB b_63), (7, v_35)] ∧ Wd w w_ [some b_63, v_35.ownBlock] ∧ InR .i64 c_67 ∧ Bx (.arr 128 (.int .i64)) 26 w_ (Kx K w.heap.size [some b_63, v_35.ownBlock]) b_63 (List.replicate 128 (0 : Int)) ∧ Ow gt1 32 w_ w.heap.size (Kx K w.heap.size [some b_63, v_35.ownBlock]) v_35 (((l_34.set x1.toNat (y_39.1, y_39.2.1, y_39.2.2.1, y_39.2.2.2.1, true, y_39.2.2.2.2.2.1, y_39.2.2.2.2.2.2)).set x1.toNat (y_47.1, y_47.2.1, y_47.2.2.1, y_47.2.2.2.1, y_47.2.2.2.2.1, false, y_47.2.2.2.2.2.2)).set x1.toNat (y_55.1, y_55.2.1, y_55.2.2.1, y_55.2.2.2.1, y_55.2.2.2.2.1, y_55.2.2.2.2.2.1, x2)) (capA (some 0) l_34.length) ∧ p23_l1 n x1 x2 l_34 y_39 y_47 y_55 m_ c_67 = some y_71) n ?_ ?_
        · skip
          exact ⟨x1, ⟨S.sub (by exact ⟨rfl, rfl, rfl, trivial⟩), W, G1, B_64, O_61, ey_71⟩⟩
        · clear S W; rintro m_73 a w_75 ⟨c_67, S, W, G_68, B_64, O_61, hl_74⟩
          cases m_73 with
          | zero => exact absurd hl_74 (by simp [p23_l1])
          | succ m_73 =>
            refine ⟨m_73, rfl, ?_⟩
            rw [p23_l1] at hl_74
            refine wp_seq ?_
            refine wp_seq ?_
            refine wp_region_lit ?_
            refine wl_pure (l' := [(67, .bool (decide (c_67 ≥ 0))), (66, .int .i64 c_67), (9, .int .i64 c_67), (8, pB b_63), (7, v_35)]) S tys tys_ok 2 (by kernel_rfl) ?_
            clear S; intro a S
            refine wpList_nil ?_
            refine then_n ?_
            replace S := S.sub (l' := [(67, .bool (decide (c_67 ≥ 0))), (9, .int .i64 c_67), (8, pB b_63), (7, v_35)]) (by exact ⟨rfl, rfl, rfl, rfl, trivial⟩)
            refine wp_cond_split (S.eval (show ev _ _ = some (.bool (decide (c_67 ≥ 0))) from rfl)) ?_ ?_
            · intro hc
              rw [if_pos hc] at hl_74
              refine wp_skip ?_
              refine then_n ?_
              replace S := S.sub (l' := [(9, .int .i64 c_67), (8, pB b_63), (7, v_35)]) (by exact ⟨rfl, rfl, rfl, trivial⟩)
              refine wp_seq ?_
              refine wp_block ?_
              refine wp_seq ?_
              refine wp_region_lit ?_
              refine wl_pure (l' := [(74, .int .i64 c_67), (73, v_35), (9, .int .i64 c_67), (8, pB b_63), (7, v_35)]) S tys tys_ok 2 (by kernel_rfl) ?_
              clear S; intro a S
              refine w_go S rfl (op_load (t := (.arr 128 (.int .i64))) (x := (List.replicate 128 (0 : Int))) S rfl ty26 rfl rfl rfl B_64.at_ ?_)
              clear S; intro a v_76 R_77 S
              obtain ⟨t_78, et_78, hl_74⟩ := bindS hl_74
              refine w_go S rfl (op_call (vs := [v_35, .int .i64 c_67, v_76]) S rfl cb10 rfl rfl rfl (c10 (Kx K w.heap.size []) n w_75 (⟨(((l_34.set x1.toNat (y_39.1, y_39.2.1, y_39.2.2.1, y_39.2.2.2.1, true, y_39.2.2.2.2.2.1, y_39.2.2.2.2.2.2)).set x1.toNat (y_47.1, y_47.2.1, y_47.2.2.1, y_47.2.2.2.1, y_47.2.2.2.2.1, false, y_47.2.2.2.2.2.2)).set x1.toNat (y_55.1, y_55.2.1, y_55.2.2.1, y_55.2.2.2.1, y_55.2.2.2.2.1, y_55.2.2.2.2.2.1, x2)), capA (some 0) l_34.length⟩ : Sl (Int × Int × Bool × Bool × Bool × Bool × Int)) _ (Ow.read O_61) c_67 G_68 (List.replicate 128 (0 : Int)) _ R_77.out et_78) ?_)
              rintro _ w_82 ⟨v_79, rfl, R_80, hb_81⟩; refine ⟨_, rfl, ?_⟩
              clear S; intro a S
              replace R_77 := R_77.step hb_81
              replace B_64 := B_64.step hb_81
              replace O_61 := O_61.step hb_81
              replace W := W.step hb_81
              obtain ⟨rfl, GR_80⟩ := RepV.int R_80
              refine wl_pureK (l' := [(78, .int .i64 c_67), (77, v_35), (76, .int .i64 t_78), (9, .int .i64 c_67), (8, pB b_63), (7, v_35)]) S tys tys_ok 2 [78, 77, 76, 9, 8, 7] (by kernel_rfl) ?_
              clear S; intro a S
              obtain ⟨t_83, et_83, hl_74⟩ := bindS hl_74
              refine w_go S rfl (op_call (vs := [v_35, .int .i64 c_67]) S rfl cb11 rfl rfl rfl (c11 (Kx K w.heap.size []) n w_82 (⟨(((l_34.set x1.toNat (y_39.1, y_39.2.1, y_39.2.2.1, y_39.2.2.2.1, true, y_39.2.2.2.2.2.1, y_39.2.2.2.2.2.2)).set x1.toNat (y_47.1, y_47.2.1, y_47.2.2.1, y_47.2.2.2.1, y_47.2.2.2.2.1, false, y_47.2.2.2.2.2.2)).set x1.toNat (y_55.1, y_55.2.1, y_55.2.2.1, y_55.2.2.2.1, y_55.2.2.2.2.1, y_55.2.2.2.2.2.1, x2)), capA (some 0) l_34.length⟩ : Sl (Int × Int × Bool × Bool × Bool × Bool × Int)) _ (Ow.read O_61) c_67 G_68 et_83) ?_)
              rintro _ w_87 ⟨v_84, rfl, R_85, hb_86⟩; refine ⟨_, rfl, ?_⟩
              clear S; intro a S
              replace B_64 := B_64.step hb_86
              replace O_61 := O_61.step hb_86
              replace W := W.step hb_86
              obtain ⟨rfl, GR_85⟩ := RepV.int R_85
              refine wl_pureK (l' := [(80, .bool (decide (t_78 > t_83))), (9, .int .i64 c_67), (8, pB b_63), (7, v_35)]) S tys tys_ok 1 [80, 9, 8, 7] (by kernel_rfl) ?_
              clear S; intro a S
              refine wpList_nil ?_
              refine then_n ?_
              refine wp_cond_split (S.eval (show ev _ _ = some (.bool (decide (t_78 > t_83))) from rfl)) ?_ ?_
              · intro hc
                rw [if_pos hc] at hl_74
                refine wp_seq ?_
                refine wp_region_lit ?_
                refine wl_pureK (l' := [(6, .int .i64 0)]) S tys tys_ok 1 [6] (by kernel_rfl) ?_
                clear S; intro a S
                refine wpList_nil ?_
                refine then_n ?_
                refine wp_ret ?_
                refine blk_r ?_
                refine then_r ?_
                refine then_r ?_
                refine blk_r ?_
                refine then_r ?_
                refine then_r ?_
                obtain rfl := Option.some.inj hl_74
                obtain rfl := lr_inr h
                exact b_ret1 S rfl rfl ⟨_, rfl, (RepV.mkInt (by decide)), W.below⟩
              · intro hc
                rw [if_neg (Bool.eq_false_iff.1 hc)] at hl_74
                refine wp_skip ?_
                refine blk_n ?_
                refine then_n ?_
                replace S := S.sub (l' := [(9, .int .i64 c_67), (8, pB b_63), (7, v_35)]) (by exact ⟨rfl, rfl, rfl, trivial⟩)
                refine wp_region_lit ?_
                refine wl_pure (l' := [(69, .int .i64 c_67), (68, v_35), (9, .int .i64 c_67), (8, pB b_63), (7, v_35)]) S tys tys_ok 2 (by kernel_rfl) ?_
                clear S; intro a S
                obtain ⟨y_88, ey_88, hl_74⟩ := bindS hl_74
                refine w_go S rfl (op_indexAddr_own S rfl ty24 rfl rfl rfl O_61 rfl ey_88 ?_)
                clear S; intro a g_89 H_91 R_90 S
                refine wl_pureK (l' := [(71, .pointer (some ((⟨g_89, c_67.toNat * GT.sz gt1, .none⟩ : Addr).add (coff gf1 0)))), (9, .int .i64 c_67), (8, pB b_63), (7, v_35)]) S tys tys_ok 1 [71, 9, 8, 7] (by kernel_rfl) ?_
                clear S; intro a S
                refine w_go S rfl (op_load (t := (.int .i64)) (x := y_88.1) S rfl ty3 rfl rfl rfl (RepAt.add 0 (RepAt.st (t := gf1) R_90)) ?_)
                clear S; intro a v_92 R_93 S
                obtain ⟨rfl, GR_93⟩ := RepV.int R_93
                refine wl_pure (l' := [(9, .int .i64 y_88.1), (72, .int .i64 y_88.1), (71, .pointer (some ((⟨g_89, c_67.toNat * GT.sz gt1, .none⟩ : Addr).add (coff gf1 0)))), (9, .int .i64 c_67), (8, pB b_63), (7, v_35)]) S tys tys_ok 1 (by kernel_rfl) ?_
                clear S; intro a S
                refine wpList_nil ?_
                refine then_n ?_
                exact ⟨y_88.1, ⟨S.sub (by exact ⟨rfl, rfl, rfl, trivial⟩), W, GR_93, B_64, O_61, hl_74⟩⟩
            · intro hc
              rw [if_neg (Bool.eq_false_iff.1 hc)] at hl_74
              refine wp_exit ?_
              refine then_x ?_
              refine then_x ?_
              refine blk_hit ?_
              refine then_n ?_
              obtain rfl := Option.some.inj hl_74
              exact ⟨_, rfl, ⟨S.sub trivial, W, B_64⟩⟩
      clear S W; rintro a w_94 ⟨s_72, rfl, S, W, B_64⟩
      replace h := lr_inl h; try dsimp only at h
      refine then_n ?_
      refine wp_seq ?_
      refine wp_region_lit ?_
      refine wl_pure (l' := [(6, .int .i64 1)]) S tys tys_ok 1 (by kernel_rfl) ?_
      clear S; intro a S
      refine wpList_nil ?_
      refine then_n ?_
      refine wp_ret ?_
      obtain rfl := Option.some.inj h
      exact b_ret1 S rfl rfl ⟨_, rfl, (RepV.mkInt (by decide)), W.below⟩
theorem cb23 : callB Try.prog 23 = true := by kernel_rfl
def p5 (n : Nat) (x0 : Sl (Int × Int × Int × Int)) (x1 : Int) (x2 : Int) : Option ((Bool)) :=
  (p9 n x0).bind fun t_1 =>
  (p22 n (⟨t_1.xs, t_1.cap⟩ : Sl (Int × Int × Bool × Bool × Bool × Bool × Int)) x1 x2).bind fun t_6 =>
  (p23 n (⟨t_1.xs, t_1.cap⟩ : Sl (Int × Int × Bool × Bool × Bool × Bool × Int)) x1 x2).bind fun t_13 =>
  if (t_13 == 2) then ((if (!t_6.1) = true then some (t_6.2 == 1) else some false).bind fun q_18 => (if q_18 = true then (p19 n).bind fun t_20 => some t_20 else some false).bind fun q_19 => some q_19) else (if (t_6.2 != 0) = false then some (!(t_6.1 == (t_13 == 1))) else some true).bind fun q_26 => if q_26 then (some false) else (quoI .i64 x2 2).bind fun x_27 => (p22 n (⟨t_1.xs, t_1.cap⟩ : Sl (Int × Int × Bool × Bool × Bool × Bool × Int)) x1 x_27).bind fun t_28 => (if (t_28.2 == 0) = true then (if t_28.1 = false then some (!t_6.1) else some true).bind fun q_36 => some q_36 else some false).bind fun q_35 => (if q_35 = true then (p19 n).bind fun t_38 => some t_38 else some false).bind fun q_37 => some q_37
set_option maxHeartbeats 4000000 in
set_option maxRecDepth 100000 in
/-- plugboard/plugboardlaw19.PowersAdmits -/
theorem c5 (K : Nat → Prop) (n : Nat) (w : World) (x0 : Sl (Int × Int × Int × Int)) (v0 : Value) (R0 : RepV (.sl gt0) w K v0 x0) (x1 : Int) (G1 : InR .i64 x1) (x2 : Int) (G2 : InR .i64 x2) {r : (Bool)} (h : p5 n x0 x1 x2 = some r) :
    Calls Try.prog 5 #[v0, .int .i64 x1, .int .i64 x2] w (Ret1 .bool w (Kx K w.heap.size []) r) := by
  refine enter (args := [v0, .int .i64 x1, .int .i64 x2]) Try.func5 rfl 65 rfl rfl fun a S => ?_
  have W := Wd.start w
  replace R0 := R0.arg
  unfold p5 at h
  replace S : St 65 a [(0, v0), (1, .int .i64 x1), (2, .int .i64 x2)] := S
  refine wp_seq ?_
  refine wp_region_lit ?_
  refine wl_pure (l' := [(6, .bool false), (0, v0), (1, .int .i64 x1), (2, .int .i64 x2)]) S tys tys_ok 1 (by kernel_rfl) ?_
  clear S; intro a S
  refine wpList_nil ?_
  refine then_n ?_
  replace S := S.sub (l' := [(0, v0), (1, .int .i64 x1), (2, .int .i64 x2)]) (by exact ⟨rfl, rfl, rfl, trivial⟩)
  refine wp_seq ?_
  refine wp_region_lit ?_
  refine wl_pure (l' := [(13, v0), (0, v0), (1, .int .i64 x1), (2, .int .i64 x2)]) S tys tys_ok 1 (by kernel_rfl) ?_
  clear S; intro a S
  obtain ⟨t_1, et_1, h⟩ := bindS h
  refine w_go S rfl (op_call (vs := [v0]) S rfl cb9 rfl rfl rfl (c9 (Kx K w.heap.size []) n w x0 _ R0 et_1) ?_)
  rintro _ w_5 ⟨v_2, rfl, R_3, hb_4⟩; refine ⟨_, rfl, ?_⟩
  have NO_ := newO_of R_3 (Nat.le_refl _) hb_4
  replace R_3 := Ow.backO R_3 W
  clear S; intro a S
  replace R0 := R0.newO NO_
  replace W := W.newO NO_
  clear NO_
  refine wl_pureK (l' := [(7, v_2), (1, .int .i64 x1), (2, .int .i64 x2)]) S tys tys_ok 1 [7, 1, 2] (by kernel_rfl) ?_
  clear S; intro a S
  refine wpList_nil ?_
  refine then_n ?_
  refine wp_seq ?_
  refine wp_region_lit ?_
  refine wl_pure (l' := [(18, .int .i64 x2), (17, .int .i64 x1), (16, v_2), (7, v_2), (1, .int .i64 x1), (2, .int .i64 x2)]) S tys tys_ok 3 (by kernel_rfl) ?_
  clear S; intro a S
  obtain ⟨t_6, et_6, h⟩ := bindS h
  refine w_go S rfl (op_call (vs := [v_2, .int .i64 x1, .int .i64 x2]) S rfl cb22 rfl rfl rfl (c22 (Kx K w.heap.size []) n w_5 (⟨t_1.xs, t_1.cap⟩ : Sl (Int × Int × Bool × Bool × Bool × Bool × Int)) _ (Ow.read R_3) x1 G1 x2 G2 et_6) ?_)
  rintro _ w_12 ⟨v_7, v_8, rfl, R_9, R_10, hb_11⟩; refine ⟨_, rfl, ?_⟩
  clear S; intro a S
  replace R_3 := R_3.step hb_11
  replace W := W.step hb_11
  obtain rfl := RepV.bool R_9
  obtain ⟨rfl, GR_10⟩ := RepV.int R_10
  refine wl_pureK (l' := [(9, .int .i64 t_6.2), (8, .bool t_6.1), (7, v_2), (1, .int .i64 x1), (2, .int .i64 x2)]) S tys tys_ok 5 [9, 8, 7, 1, 2] (by kernel_rfl) ?_
  clear S; intro a S
  refine wpList_nil ?_
  refine then_n ?_
  refine wp_seq ?_
  refine wp_region_lit ?_
  refine wl_pure (l' := [(24, .int .i64 x2), (23, .int .i64 x1), (22, v_2), (9, .int .i64 t_6.2), (8, .bool t_6.1), (7, v_2), (1, .int .i64 x1), (2, .int .i64 x2)]) S tys tys_ok 3 (by kernel_rfl) ?_
  clear S; intro a S
  obtain ⟨t_13, et_13, h⟩ := bindS h
  refine w_go S rfl (op_call (vs := [v_2, .int .i64 x1, .int .i64 x2]) S rfl cb23 rfl rfl rfl (c23 (Kx K w.heap.size []) n w_12 (⟨t_1.xs, t_1.cap⟩ : Sl (Int × Int × Bool × Bool × Bool × Bool × Int)) _ (Ow.read R_3) x1 G1 x2 G2 et_13) ?_)
  rintro _ w_17 ⟨v_14, rfl, R_15, hb_16⟩; refine ⟨_, rfl, ?_⟩
  clear S; intro a S
  replace R_3 := R_3.step hb_16
  replace W := W.step hb_16
  obtain ⟨rfl, GR_15⟩ := RepV.int R_15
  refine wl_pureK (l' := [(10, .int .i64 t_13), (9, .int .i64 t_6.2), (8, .bool t_6.1), (7, v_2), (1, .int .i64 x1), (2, .int .i64 x2)]) S tys tys_ok 1 [10, 9, 8, 7, 1, 2] (by kernel_rfl) ?_
  clear S; intro a S
  refine wpList_nil ?_
  refine then_n ?_
  refine wp_seq ?_
  refine wp_seq ?_
  refine wp_region_lit ?_
  refine wl_pure (l' := [(27, .bool (t_13 == 2)), (26, .int .i64 t_13), (10, .int .i64 t_13), (9, .int .i64 t_6.2), (8, .bool t_6.1), (7, v_2), (1, .int .i64 x1), (2, .int .i64 x2)]) S tys tys_ok 2 (by kernel_rfl) ?_
  clear S; intro a S
  refine wpList_nil ?_
  refine then_n ?_
  replace S := S.sub (l' := [(27, .bool (t_13 == 2)), (10, .int .i64 t_13), (9, .int .i64 t_6.2), (8, .bool t_6.1), (7, v_2), (1, .int .i64 x1), (2, .int .i64 x2)]) (by exact ⟨rfl, rfl, rfl, rfl, rfl, rfl, rfl, trivial⟩)
  refine wp_cond_split (S.eval (show ev _ _ = some (.bool (t_13 == 2)) from rfl)) ?_ ?_
  · intro hc
    rw [if_pos hc] at h
    refine wp_seq ?_
    refine wp_region_lit ?_
    refine wl_pureK (l' := [(30, .bool (!t_6.1)), (9, .int .i64 t_6.2)]) S tys tys_ok 3 [30, 9] (by kernel_rfl) ?_
    clear S; intro a S
    obtain ⟨q_18, eq_18, h⟩ := bindS h
    refine seg 3 (fun a_ w_ => w_17 = w_ ∧ St 65 a_ [(33, .bool q_18)]) ?_ ?_
    · by_cases hc : (!t_6.1) = true
      · rw [if_pos hc] at eq_18; rw [hc] at S
        refine wl_pureK (l' := [(33, .bool (t_6.2 == 1))]) S tys tys_ok 3 [33] (by kernel_rfl) ?_
        clear S; intro a S
        obtain rfl := Option.some.inj eq_18
        exact ⟨rfl, S.sub (by exact ⟨rfl, trivial⟩)⟩
      · rw [if_neg hc] at eq_18; rw [show (!t_6.1) = false from Bool.eq_false_iff.2 hc] at S
        refine wl_pureK (l' := [(33, .bool false)]) S tys tys_ok 3 [33] (by kernel_rfl) ?_
        clear S; intro a S
        obtain rfl := Option.some.inj eq_18
        exact ⟨rfl, S.sub (by exact ⟨rfl, trivial⟩)⟩
    clear S eq_18; rintro a _ ⟨rfl, S⟩
    refine wl_pure (l' := [(34, .bool q_18), (33, .bool q_18)]) S tys tys_ok 1 (by kernel_rfl) ?_
    clear S; intro a S
    obtain ⟨q_19, eq_19, h⟩ := bindS h
    refine seg 2 (fun a_ w_ => St 65 a_ [(36, .bool q_19)] ∧ Wd w w_ [v_2.ownBlock]) ?_ ?_
    · by_cases hc : q_18 = true
      · rw [if_pos hc] at eq_19; rw [hc] at S
        obtain ⟨t_20, et_20, eq_19⟩ := bindS eq_19
        refine w_go S rfl (op_call (vs := []) S rfl cb19 rfl rfl rfl (c19 (Kx K w.heap.size [v_2.ownBlock]) n w_17  et_20) ?_)
        rintro _ w_24 ⟨v_21, rfl, R_22, hb_23⟩; refine ⟨_, rfl, ?_⟩
        replace R_22 := RepV.back R_22 W
        clear S; intro a S
        replace W := W.step hb_23
        obtain rfl := RepV.bool R_22
        refine wl_pureK (l' := [(36, .bool t_20)]) S tys tys_ok 1 [36] (by kernel_rfl) ?_
        clear S; intro a S
        obtain rfl := Option.some.inj eq_19
        exact ⟨S.sub (by exact ⟨rfl, trivial⟩), W⟩
      · rw [if_neg hc] at eq_19; rw [show q_18 = false from Bool.eq_false_iff.2 hc] at S
        refine wl_pureK (l' := [(36, .bool false)]) S tys tys_ok 2 [36] (by kernel_rfl) ?_
        clear S; intro a S
        obtain rfl := Option.some.inj eq_19
        exact ⟨S.sub (by exact ⟨rfl, trivial⟩), W⟩
    clear S W eq_19; rintro a w_25 ⟨S, W⟩
    refine wl_pure (l' := [(6, .bool q_19), (36, .bool q_19)]) S tys tys_ok 1 (by kernel_rfl) ?_
    clear S; intro a S
    refine wpList_nil ?_
    refine then_n ?_
    replace S := S.sub (l' := [(6, .bool q_19)]) (by exact ⟨rfl, trivial⟩)
    refine wp_ret ?_
    refine then_r ?_
    obtain rfl := Option.some.inj h
    exact b_ret1 S rfl rfl ⟨_, rfl, RepV.mkBool, W.below⟩
  · intro hc
    rw [if_neg (Bool.eq_false_iff.1 hc)] at h
    refine wp_skip ?_
    refine then_n ?_
    replace S := S.sub (l' := [(10, .int .i64 t_13), (9, .int .i64 t_6.2), (8, .bool t_6.1), (7, v_2), (1, .int .i64 x1), (2, .int .i64 x2)]) (by exact ⟨rfl, rfl, rfl, rfl, rfl, rfl, trivial⟩)
    refine wp_seq ?_
    refine wp_seq ?_
    refine wp_region_lit ?_
    refine wl_pureK (l' := [(39, .bool (t_6.2 != 0)), (10, .int .i64 t_13), (8, .bool t_6.1), (7, v_2), (1, .int .i64 x1), (2, .int .i64 x2)]) S tys tys_ok 3 [39, 10, 8, 7, 1, 2] (by kernel_rfl) ?_
    clear S; intro a S
    obtain ⟨q_26, eq_26, h⟩ := bindS h
    refine seg 5 (fun a_ w_ => w_17 = w_ ∧ St 65 a_ [(44, .bool q_26), (8, .bool t_6.1), (7, v_2), (1, .int .i64 x1), (2, .int .i64 x2)]) ?_ ?_
    · by_cases hc : (t_6.2 != 0) = false
      · rw [if_pos hc] at eq_26; rw [hc] at S
        refine wl_pureK (l' := [(44, .bool (!(t_6.1 == (t_13 == 1)))), (8, .bool t_6.1), (7, v_2), (1, .int .i64 x1), (2, .int .i64 x2)]) S tys tys_ok 5 [44, 8, 7, 1, 2] (by kernel_rfl) ?_
        clear S; intro a S
        obtain rfl := Option.some.inj eq_26
        exact ⟨rfl, S.sub (by exact ⟨rfl, rfl, rfl, rfl, rfl, trivial⟩)⟩
      · rw [if_neg hc] at eq_26; rw [show (t_6.2 != 0) = true from (by simpa using hc)] at S
        refine wl_pureK (l' := [(44, .bool true), (8, .bool t_6.1), (7, v_2), (1, .int .i64 x1), (2, .int .i64 x2)]) S tys tys_ok 5 [44, 8, 7, 1, 2] (by kernel_rfl) ?_
        clear S; intro a S
        obtain rfl := Option.some.inj eq_26
        exact ⟨rfl, S.sub (by exact ⟨rfl, rfl, rfl, rfl, rfl, trivial⟩)⟩
    clear S eq_26; rintro a _ ⟨rfl, S⟩
    refine wpList_nil ?_
    refine then_n ?_
    refine wp_cond_split (S.eval (show ev _ _ = some (.bool q_26) from rfl)) ?_ ?_
    · intro hc
      rw [if_pos hc] at h
      refine wp_seq ?_
      refine wp_region_lit ?_
      refine wl_pureK (l' := [(6, .bool false)]) S tys tys_ok 1 [6] (by kernel_rfl) ?_
      clear S; intro a S
      refine wpList_nil ?_
      refine then_n ?_
      refine wp_ret ?_
      refine then_r ?_
      obtain rfl := Option.some.inj h
      exact b_ret1 S rfl rfl ⟨_, rfl, RepV.mkBool, W.below⟩
    · intro hc
      rw [if_neg (Bool.eq_false_iff.1 hc)] at h
      refine wp_skip ?_
      refine then_n ?_
      replace S := S.sub (l' := [(8, .bool t_6.1), (7, v_2), (1, .int .i64 x1), (2, .int .i64 x2)]) (by exact ⟨rfl, rfl, rfl, rfl, trivial⟩)
      refine wp_seq ?_
      refine wp_region_lit ?_
      refine wl_pureK (l' := [(48, .int .i64 x2), (47, .int .i64 x1), (46, v_2), (8, .bool t_6.1)]) S tys tys_ok 3 [48, 47, 46, 8] (by kernel_rfl) ?_
      clear S; intro a S
      obtain ⟨x_27, ex_27, h⟩ := bindS h
      refine w_go S rfl (op_quo S .i64 rfl rfl rfl rfl rfl ex_27 ?_)
      clear S; intro a S
      obtain ⟨t_28, et_28, h⟩ := bindS h
      refine w_go S rfl (op_call (vs := [v_2, .int .i64 x1, .int .i64 x_27]) S rfl cb22 rfl rfl rfl (c22 (Kx K w.heap.size []) n w_17 (⟨t_1.xs, t_1.cap⟩ : Sl (Int × Int × Bool × Bool × Bool × Bool × Int)) _ (Ow.read R_3) x1 G1 x_27 (inR_quo ex_27) et_28) ?_)
      rintro _ w_34 ⟨v_29, v_30, rfl, R_31, R_32, hb_33⟩; refine ⟨_, rfl, ?_⟩
      clear S; intro a S
      replace R_3 := R_3.step hb_33
      replace W := W.step hb_33
      obtain rfl := RepV.bool R_31
      obtain ⟨rfl, GR_32⟩ := RepV.int R_32
      refine wl_pureK (l' := [(12, .int .i64 t_28.2), (11, .bool t_28.1), (8, .bool t_6.1)]) S tys tys_ok 5 [12, 11, 8] (by kernel_rfl) ?_
      clear S; intro a S
      refine wpList_nil ?_
      refine then_n ?_
      refine wp_seq ?_
      refine wp_region_lit ?_
      refine wl_pureK (l' := [(55, .bool (t_28.2 == 0)), (11, .bool t_28.1), (8, .bool t_6.1)]) S tys tys_ok 3 [55, 11, 8] (by kernel_rfl) ?_
      clear S; intro a S
      obtain ⟨q_35, eq_35, h⟩ := bindS h
      refine seg 6 (fun a_ w_ => w_34 = w_ ∧ St 65 a_ [(61, .bool q_35)]) ?_ ?_
      · by_cases hc : (t_28.2 == 0) = true
        · rw [if_pos hc] at eq_35; rw [hc] at S
          refine wl_pure (l' := [(57, .bool t_28.1), (56, .bool t_28.1), (55, .bool true), (11, .bool t_28.1), (8, .bool t_6.1)]) S tys tys_ok 2 (by kernel_rfl) ?_
          clear S; intro a S
          obtain ⟨q_36, eq_36, eq_35⟩ := bindS eq_35
          refine seg 3 (fun a_ w_ => w_34 = w_ ∧ St 65 a_ [(60, .bool q_36), (55, .bool true)]) ?_ ?_
          · by_cases hc : t_28.1 = false
            · rw [if_pos hc] at eq_36; rw [hc] at S
              refine wl_pureK (l' := [(60, .bool (!t_6.1)), (55, .bool true)]) S tys tys_ok 3 [60, 55] (by kernel_rfl) ?_
              clear S; intro a S
              obtain rfl := Option.some.inj eq_36
              exact ⟨rfl, S.sub (by exact ⟨rfl, rfl, trivial⟩)⟩
            · rw [if_neg hc] at eq_36; rw [show t_28.1 = true from (by simpa using hc)] at S
              refine wl_pureK (l' := [(60, .bool true), (55, .bool true)]) S tys tys_ok 3 [60, 55] (by kernel_rfl) ?_
              clear S; intro a S
              obtain rfl := Option.some.inj eq_36
              exact ⟨rfl, S.sub (by exact ⟨rfl, rfl, trivial⟩)⟩
          clear S eq_36; rintro a _ ⟨rfl, S⟩
          refine wl_pure (l' := [(61, .bool q_36), (60, .bool q_36), (55, .bool true)]) S tys tys_ok 1 (by kernel_rfl) ?_
          clear S; intro a S
          obtain rfl := Option.some.inj eq_35
          exact ⟨rfl, S.sub (by exact ⟨rfl, trivial⟩)⟩
        · rw [if_neg hc] at eq_35; rw [show (t_28.2 == 0) = false from Bool.eq_false_iff.2 hc] at S
          refine wl_pureK (l' := [(61, .bool false)]) S tys tys_ok 6 [61] (by kernel_rfl) ?_
          clear S; intro a S
          obtain rfl := Option.some.inj eq_35
          exact ⟨rfl, S.sub (by exact ⟨rfl, trivial⟩)⟩
      clear S eq_35; rintro a _ ⟨rfl, S⟩
      refine wl_pure (l' := [(62, .bool q_35), (61, .bool q_35)]) S tys tys_ok 1 (by kernel_rfl) ?_
      clear S; intro a S
      obtain ⟨q_37, eq_37, h⟩ := bindS h
      refine seg 2 (fun a_ w_ => St 65 a_ [(64, .bool q_37)] ∧ Wd w w_ [v_2.ownBlock]) ?_ ?_
      · by_cases hc : q_35 = true
        · rw [if_pos hc] at eq_37; rw [hc] at S
          obtain ⟨t_38, et_38, eq_37⟩ := bindS eq_37
          refine w_go S rfl (op_call (vs := []) S rfl cb19 rfl rfl rfl (c19 (Kx K w.heap.size [v_2.ownBlock]) n w_34  et_38) ?_)
          rintro _ w_42 ⟨v_39, rfl, R_40, hb_41⟩; refine ⟨_, rfl, ?_⟩
          replace R_40 := RepV.back R_40 W
          clear S; intro a S
          replace W := W.step hb_41
          obtain rfl := RepV.bool R_40
          refine wl_pureK (l' := [(64, .bool t_38)]) S tys tys_ok 1 [64] (by kernel_rfl) ?_
          clear S; intro a S
          obtain rfl := Option.some.inj eq_37
          exact ⟨S.sub (by exact ⟨rfl, trivial⟩), W⟩
        · rw [if_neg hc] at eq_37; rw [show q_35 = false from Bool.eq_false_iff.2 hc] at S
          refine wl_pureK (l' := [(64, .bool false)]) S tys tys_ok 2 [64] (by kernel_rfl) ?_
          clear S; intro a S
          obtain rfl := Option.some.inj eq_37
          exact ⟨S.sub (by exact ⟨rfl, trivial⟩), W⟩
      clear S W eq_37; rintro a w_43 ⟨S, W⟩
      refine wl_pure (l' := [(6, .bool q_37), (64, .bool q_37)]) S tys tys_ok 1 (by kernel_rfl) ?_
      clear S; intro a S
      refine wpList_nil ?_
      refine then_n ?_
      replace S := S.sub (l' := [(6, .bool q_37)]) (by exact ⟨rfl, trivial⟩)
      refine wp_ret ?_
      obtain rfl := Option.some.inj h
      exact b_ret1 S rfl rfl ⟨_, rfl, RepV.mkBool, W.below⟩

end Go.Proofs.Ytnelgpgmggcdcaa
