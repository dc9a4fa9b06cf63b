/- Functions of the program, as plain data. -/
import Derived.Test.YtnelgpgmggcdcaaPm1
set_option linter.unusedVariables false
set_option linter.unusedSimpArgs false
namespace Go.Proofs.Ytnelgpgmggcdcaa
open Go.RowKit

def p6 (n : Nat) (x0 : Sl (Int × Int × Int × Int)) (x1 : Int) : Option ((Bool)) :=
  (p9 n x0).bind fun t_1 =>
  (p24 n (⟨t_1.xs, t_1.cap⟩ : Sl (Int × Int × Bool × Bool × Bool × Bool × Int)) x1).bind fun t_6 =>
  (p23 n (⟨t_1.xs, t_1.cap⟩ : Sl (Int × Int × Bool × Bool × Bool × Bool × Int)) x1 0).bind fun t_13 =>
  if (t_13 == 2) then ((if (t_6.1 == 0) = true then some (t_6.2 == 1) else some false).bind fun q_18 => (if q_18 = true then (p19 n).bind fun t_20 => some t_20 else some false).bind fun q_19 => some q_19) else (if (t_6.2 != 0) = false then some (decide (t_6.1 < (-1))) else some true).bind fun q_26 => (if q_26 = false then some (decide (t_6.1 > 500)) else some true).bind fun q_27 => if q_27 then (some false) else (if (decide (t_6.1 < 0)) = false then (p23 n (⟨t_1.xs, t_1.cap⟩ : Sl (Int × Int × Bool × Bool × Bool × Bool × Int)) x1 t_6.1).bind fun t_29 => some (t_29 == 1) else some true).bind fun q_28 => (if q_28 = true then (if (t_6.1 == 500) = false then (ckI .i64 (t_6.1 + 1)).bind fun x_37 => (p23 n (⟨t_1.xs, t_1.cap⟩ : Sl (Int × Int × Bool × Bool × Bool × Bool × Int)) x1 x_37).bind fun t_38 => some (t_38 == 0) else some true).bind fun q_36 => some q_36 else some false).bind fun q_35 => (if q_35 = true then (p19 n).bind fun t_46 => some t_46 else some false).bind fun q_45 => some q_45
set_option maxHeartbeats 4000000 in
set_option maxRecDepth 100000 in
/-- plugboard/plugboardlaw19.PowersFree -/
theorem c6 (K : Nat → Prop) (n : Nat) (w : World) (x0 : Sl (Int × Int × Int × Int)) (v0 : Value) (R0 : RepV (.sl gt0) w K v0 x0) (x1 : Int) (G1 : InR .i64 x1) {r : (Bool)} (h : p6 n x0 x1 = some r) :
    Calls Try.prog 6 #[v0, .int .i64 x1] w (Ret1 .bool w (Kx K w.heap.size []) r) := by
  refine enter (args := [v0, .int .i64 x1]) Try.func6 rfl 63 rfl rfl fun a S => ?_
  have W := Wd.start w
  replace R0 := R0.arg
  unfold p6 at h
  replace S : St 63 a [(0, v0), (1, .int .i64 x1)] := S
  refine wp_seq ?_
  refine wp_region_lit ?_
  refine wl_pure (l' := [(4, .bool false), (0, v0), (1, .int .i64 x1)]) S tys tys_ok 1 (by kernel_rfl) ?_
  clear S; intro a S
  refine wpList_nil ?_
  refine then_n ?_
  replace S := S.sub (l' := [(0, v0), (1, .int .i64 x1)]) (by exact ⟨rfl, rfl, trivial⟩)
  refine wp_seq ?_
  refine wp_region_lit ?_
  refine wl_pure (l' := [(8, v0), (0, v0), (1, .int .i64 x1)]) S tys tys_ok 1 (by kernel_rfl) ?_
  clear S; intro a S
  obtain ⟨t_1, et_1, h⟩ := bindS h
  refine w_go S rfl (op_call (vs := [v0]) S rfl cb9 rfl rfl rfl (c9 (Kx K w.heap.size []) n w x0 _ R0 et_1) ?_)
  rintro _ w_5 ⟨v_2, rfl, R_3, hb_4⟩; refine ⟨_, rfl, ?_⟩
  have NO_ := newO_of R_3 (Nat.le_refl _) hb_4
  replace R_3 := Ow.backO R_3 W
  clear S; intro a S
  replace R0 := R0.newO NO_
  replace W := W.newO NO_
  clear NO_
  refine wl_pureK (l' := [(5, v_2), (1, .int .i64 x1)]) S tys tys_ok 1 [5, 1] (by kernel_rfl) ?_
  clear S; intro a S
  refine wpList_nil ?_
  refine then_n ?_
  refine wp_seq ?_
  refine wp_region_lit ?_
  refine wl_pure (l' := [(12, .int .i64 x1), (11, v_2), (5, v_2), (1, .int .i64 x1)]) S tys tys_ok 2 (by kernel_rfl) ?_
  clear S; intro a S
  obtain ⟨t_6, et_6, h⟩ := bindS h
  refine w_go S rfl (op_call (vs := [v_2, .int .i64 x1]) S rfl cb24 rfl rfl rfl (c24 (Kx K w.heap.size []) n w_5 (⟨t_1.xs, t_1.cap⟩ : Sl (Int × Int × Bool × Bool × Bool × Bool × Int)) _ (Ow.read R_3) x1 G1 et_6) ?_)
  rintro _ w_12 ⟨v_7, v_8, rfl, R_9, R_10, hb_11⟩; refine ⟨_, rfl, ?_⟩
  clear S; intro a S
  replace R_3 := R_3.step hb_11
  replace W := W.step hb_11
  obtain ⟨rfl, GR_9⟩ := RepV.int R_9
  obtain ⟨rfl, GR_10⟩ := RepV.int R_10
  refine wl_pureK (l' := [(7, .int .i64 t_6.2), (6, .int .i64 t_6.1), (5, v_2), (1, .int .i64 x1)]) S tys tys_ok 5 [7, 6, 5, 1] (by kernel_rfl) ?_
  clear S; intro a S
  refine wpList_nil ?_
  refine then_n ?_
  refine wp_seq ?_
  refine wp_seq ?_
  refine wp_region_lit ?_
  refine wl_pure (l' := [(17, .int .i64 x1), (16, v_2), (7, .int .i64 t_6.2), (6, .int .i64 t_6.1), (5, v_2), (1, .int .i64 x1)]) S tys tys_ok 2 (by kernel_rfl) ?_
  clear S; intro a S
  obtain ⟨t_13, et_13, h⟩ := bindS h
  refine w_go S rfl (op_call (vs := [v_2, .int .i64 x1, .int .i64 0]) S rfl cb23 rfl rfl rfl (c23 (Kx K w.heap.size []) n w_12 (⟨t_1.xs, t_1.cap⟩ : Sl (Int × Int × Bool × Bool × Bool × Bool × Int)) _ (Ow.read R_3) x1 G1 0 (by decide) et_13) ?_)
  rintro _ w_17 ⟨v_14, rfl, R_15, hb_16⟩; refine ⟨_, rfl, ?_⟩
  clear S; intro a S
  replace R_3 := R_3.step hb_16
  replace W := W.step hb_16
  obtain ⟨rfl, GR_15⟩ := RepV.int R_15
  refine wl_pureK (l' := [(19, .bool (t_13 == 2)), (7, .int .i64 t_6.2), (6, .int .i64 t_6.1), (5, v_2), (1, .int .i64 x1)]) S tys tys_ok 1 [19, 7, 6, 5, 1] (by kernel_rfl) ?_
  clear S; intro a S
  refine wpList_nil ?_
  refine then_n ?_
  refine wp_cond_split (S.eval (show ev _ _ = some (.bool (t_13 == 2)) from rfl)) ?_ ?_
  · intro hc
    rw [if_pos hc] at h
    refine wp_seq ?_
    refine wp_region_lit ?_
    refine wl_pureK (l' := [(22, .bool (t_6.1 == 0)), (7, .int .i64 t_6.2)]) S tys tys_ok 3 [22, 7] (by kernel_rfl) ?_
    clear S; intro a S
    obtain ⟨q_18, eq_18, h⟩ := bindS h
    refine seg 3 (fun a_ w_ => w_17 = w_ ∧ St 63 a_ [(25, .bool q_18)]) ?_ ?_
    · by_cases hc : (t_6.1 == 0) = true
      · rw [if_pos hc] at eq_18; rw [hc] at S
        refine wl_pureK (l' := [(25, .bool (t_6.2 == 1))]) S tys tys_ok 3 [25] (by kernel_rfl) ?_
        clear S; intro a S
        obtain rfl := Option.some.inj eq_18
        exact ⟨rfl, S.sub (by exact ⟨rfl, trivial⟩)⟩
      · rw [if_neg hc] at eq_18; rw [show (t_6.1 == 0) = false from Bool.eq_false_iff.2 hc] at S
        refine wl_pureK (l' := [(25, .bool false)]) S tys tys_ok 3 [25] (by kernel_rfl) ?_
        clear S; intro a S
        obtain rfl := Option.some.inj eq_18
        exact ⟨rfl, S.sub (by exact ⟨rfl, trivial⟩)⟩
    clear S eq_18; rintro a _ ⟨rfl, S⟩
    refine wl_pure (l' := [(26, .bool q_18), (25, .bool q_18)]) S tys tys_ok 1 (by kernel_rfl) ?_
    clear S; intro a S
    obtain ⟨q_19, eq_19, h⟩ := bindS h
    refine seg 2 (fun a_ w_ => St 63 a_ [(28, .bool q_19)] ∧ Wd w w_ [v_2.ownBlock]) ?_ ?_
    · by_cases hc : q_18 = true
      · rw [if_pos hc] at eq_19; rw [hc] at S
        obtain ⟨t_20, et_20, eq_19⟩ := bindS eq_19
        refine w_go S rfl (op_call (vs := []) S rfl cb19 rfl rfl rfl (c19 (Kx K w.heap.size [v_2.ownBlock]) n w_17  et_20) ?_)
        rintro _ w_24 ⟨v_21, rfl, R_22, hb_23⟩; refine ⟨_, rfl, ?_⟩
        replace R_22 := RepV.back R_22 W
        clear S; intro a S
        replace W := W.step hb_23
        obtain rfl := RepV.bool R_22
        refine wl_pureK (l' := [(28, .bool t_20)]) S tys tys_ok 1 [28] (by kernel_rfl) ?_
        clear S; intro a S
        obtain rfl := Option.some.inj eq_19
        exact ⟨S.sub (by exact ⟨rfl, trivial⟩), W⟩
      · rw [if_neg hc] at eq_19; rw [show q_18 = false from Bool.eq_false_iff.2 hc] at S
        refine wl_pureK (l' := [(28, .bool false)]) S tys tys_ok 2 [28] (by kernel_rfl) ?_
        clear S; intro a S
        obtain rfl := Option.some.inj eq_19
        exact ⟨S.sub (by exact ⟨rfl, trivial⟩), W⟩
    clear S W eq_19; rintro a w_25 ⟨S, W⟩
    refine wl_pure (l' := [(4, .bool q_19), (28, .bool q_19)]) S tys tys_ok 1 (by kernel_rfl) ?_
    clear S; intro a S
    refine wpList_nil ?_
    refine then_n ?_
    replace S := S.sub (l' := [(4, .bool q_19)]) (by exact ⟨rfl, trivial⟩)
    refine wp_ret ?_
    refine then_r ?_
    obtain rfl := Option.some.inj h
    exact b_ret1 S rfl rfl ⟨_, rfl, RepV.mkBool, W.below⟩
  · intro hc
    rw [if_neg (Bool.eq_false_iff.1 hc)] at h
    refine wp_skip ?_
    refine then_n ?_
    replace S := S.sub (l' := [(7, .int .i64 t_6.2), (6, .int .i64 t_6.1), (5, v_2), (1, .int .i64 x1)]) (by exact ⟨rfl, rfl, rfl, rfl, trivial⟩)
    refine wp_seq ?_
    refine wp_seq ?_
    refine wp_region_lit ?_
    refine wl_pureK (l' := [(31, .bool (t_6.2 != 0)), (6, .int .i64 t_6.1), (5, v_2), (1, .int .i64 x1)]) S tys tys_ok 3 [31, 6, 5, 1] (by kernel_rfl) ?_
    clear S; intro a S
    obtain ⟨q_26, eq_26, h⟩ := bindS h
    refine seg 3 (fun a_ w_ => w_17 = w_ ∧ St 63 a_ [(34, .bool q_26), (6, .int .i64 t_6.1), (5, v_2), (1, .int .i64 x1)]) ?_ ?_
    · by_cases hc : (t_6.2 != 0) = false
      · rw [if_pos hc] at eq_26; rw [hc] at S
        refine wl_pureK (l' := [(34, .bool (decide (t_6.1 < (-1)))), (6, .int .i64 t_6.1), (5, v_2), (1, .int .i64 x1)]) S tys tys_ok 3 [34, 6, 5, 1] (by kernel_rfl) ?_
        clear S; intro a S
        obtain rfl := Option.some.inj eq_26
        exact ⟨rfl, S.sub (by exact ⟨rfl, rfl, rfl, rfl, trivial⟩)⟩
      · rw [if_neg hc] at eq_26; rw [show (t_6.2 != 0) = true from (by simpa using hc)] at S
        refine wl_pureK (l' := [(34, .bool true), (6, .int .i64 t_6.1), (5, v_2), (1, .int .i64 x1)]) S tys tys_ok 3 [34, 6, 5, 1] (by kernel_rfl) ?_
        clear S; intro a S
        obtain rfl := Option.some.inj eq_26
        exact ⟨rfl, S.sub (by exact ⟨rfl, rfl, rfl, rfl, trivial⟩)⟩
    clear S eq_26; rintro a _ ⟨rfl, S⟩
    refine wl_pure (l' := [(35, .bool q_26), (34, .bool q_26), (6, .int .i64 t_6.1), (5, v_2), (1, .int .i64 x1)]) S tys tys_ok 1 (by kernel_rfl) ?_
    clear S; intro a S
    obtain ⟨q_27, eq_27, h⟩ := bindS h
    refine seg 3 (fun a_ w_ => w_17 = w_ ∧ St 63 a_ [(38, .bool q_27), (6, .int .i64 t_6.1), (5, v_2), (1, .int .i64 x1)]) ?_ ?_
    · by_cases hc : q_26 = false
      · rw [if_pos hc] at eq_27; rw [hc] at S
        refine wl_pureK (l' := [(38, .bool (decide (t_6.1 > 500))), (6, .int .i64 t_6.1), (5, v_2), (1, .int .i64 x1)]) S tys tys_ok 3 [38, 6, 5, 1] (by kernel_rfl) ?_
        clear S; intro a S
        obtain rfl := Option.some.inj eq_27
        exact ⟨rfl, S.sub (by exact ⟨rfl, rfl, rfl, rfl, trivial⟩)⟩
      · rw [if_neg hc] at eq_27; rw [show q_26 = true from (by simpa using hc)] at S
        refine wl_pureK (l' := [(38, .bool true), (6, .int .i64 t_6.1), (5, v_2), (1, .int .i64 x1)]) S tys tys_ok 3 [38, 6, 5, 1] (by kernel_rfl) ?_
        clear S; intro a S
        obtain rfl := Option.some.inj eq_27
        exact ⟨rfl, S.sub (by exact ⟨rfl, rfl, rfl, rfl, trivial⟩)⟩
    clear S eq_27; rintro a _ ⟨rfl, S⟩
    refine wpList_nil ?_
    refine then_n ?_
    refine wp_cond_split (S.eval (show ev _ _ = some (.bool q_27) from rfl)) ?_ ?_
    · intro hc
      rw [if_pos hc] at h
      refine wp_seq ?_
      refine wp_region_lit ?_
      refine wl_pureK (l' := [(4, .bool false)]) S tys tys_ok 1 [4] (by kernel_rfl) ?_
      clear S; intro a S
      refine wpList_nil ?_
      refine then_n ?_
      refine wp_ret ?_
      refine then_r ?_
      obtain rfl := Option.some.inj h
      exact b_ret1 S rfl rfl ⟨_, rfl, RepV.mkBool, W.below⟩
    · intro hc
      rw [if_neg (Bool.eq_false_iff.1 hc)] at h
      refine wp_skip ?_
      refine then_n ?_
      replace S := S.sub (l' := [(6, .int .i64 t_6.1), (5, v_2), (1, .int .i64 x1)]) (by exact ⟨rfl, rfl, rfl, trivial⟩)
      refine wp_seq ?_
      refine wp_region_lit ?_
      refine wl_pure (l' := [(41, .bool (decide (t_6.1 < 0))), (40, .bool (decide (t_6.1 < 0))), (39, .int .i64 t_6.1), (6, .int .i64 t_6.1), (5, v_2), (1, .int .i64 x1)]) S tys tys_ok 3 (by kernel_rfl) ?_
      clear S; intro a S
      obtain ⟨q_28, eq_28, h⟩ := bindS h
      refine seg 6 (fun a_ w_ => St 63 a_ [(47, .bool q_28), (6, .int .i64 t_6.1), (5, v_2), (1, .int .i64 x1)] ∧ Wd w w_ [v_2.ownBlock] ∧ Ow gt1 32 w_ w.heap.size (Kx K w.heap.size [v_2.ownBlock]) v_2 t_1.xs t_1.cap) ?_ ?_
      · by_cases hc : (decide (t_6.1 < 0)) = false
        · rw [if_pos hc] at eq_28; rw [hc] at S
          refine wl_pure (l' := [(44, .int .i64 t_6.1), (43, .int .i64 x1), (42, v_2), (41, .bool false), (40, .bool false), (39, .int .i64 t_6.1), (6, .int .i64 t_6.1), (5, v_2), (1, .int .i64 x1)]) S tys tys_ok 3 (by kernel_rfl) ?_
          clear S; intro a S
          obtain ⟨t_29, et_29, eq_28⟩ := bindS eq_28
          refine w_go S rfl (op_call (vs := [v_2, .int .i64 x1, .int .i64 t_6.1]) S rfl cb23 rfl rfl rfl (c23 (Kx K w.heap.size []) n w_17 (⟨t_1.xs, t_1.cap⟩ : Sl (Int × Int × Bool × Bool × Bool × Bool × Int)) _ (Ow.read R_3) x1 G1 t_6.1 GR_9 et_29) ?_)
          rintro _ w_33 ⟨v_30, rfl, R_31, hb_32⟩; refine ⟨_, rfl, ?_⟩
          clear S; intro a S
          replace R_3 := R_3.step hb_32
          replace W := W.step hb_32
          obtain ⟨rfl, GR_31⟩ := RepV.int R_31
          refine wl_pureK (l' := [(47, .bool (t_29 == 1)), (6, .int .i64 t_6.1), (5, v_2), (1, .int .i64 x1)]) S tys tys_ok 2 [47, 6, 5, 1] (by kernel_rfl) ?_
          clear S; intro a S
          obtain rfl := Option.some.inj eq_28
          exact ⟨S.sub (by exact ⟨rfl, rfl, rfl, rfl, trivial⟩), W, R_3⟩
        · rw [if_neg hc] at eq_28; rw [show (decide (t_6.1 < 0)) = true from (by simpa using hc)] at S
          refine wl_pureK (l' := [(47, .bool true), (6, .int .i64 t_6.1), (5, v_2), (1, .int .i64 x1)]) S tys tys_ok 6 [47, 6, 5, 1] (by kernel_rfl) ?_
          clear S; intro a S
          obtain rfl := Option.some.inj eq_28
          exact ⟨S.sub (by exact ⟨rfl, rfl, rfl, rfl, trivial⟩), W, R_3⟩
      clear S W eq_28; rintro a w_34 ⟨S, W, R_3⟩
      refine wl_pure (l' := [(48, .bool q_28), (47, .bool q_28), (6, .int .i64 t_6.1), (5, v_2), (1, .int .i64 x1)]) S tys tys_ok 1 (by kernel_rfl) ?_
      clear S; intro a S
      obtain ⟨q_35, eq_35, h⟩ := bindS h
      refine seg 11 (fun a_ w_ => St 63 a_ [(59, .bool q_35)] ∧ Wd w w_ [v_2.ownBlock]) ?_ ?_
      · by_cases hc : q_28 = true
        · rw [if_pos hc] at eq_35; rw [hc] at S
          refine wl_pureK (l' := [(51, .bool (t_6.1 == 500)), (48, .bool true), (6, .int .i64 t_6.1), (5, v_2), (1, .int .i64 x1)]) S tys tys_ok 3 [51, 48, 6, 5, 1] (by kernel_rfl) ?_
          clear S; intro a S
          obtain ⟨q_36, eq_36, eq_35⟩ := bindS eq_35
          refine seg 7 (fun a_ w_ => St 63 a_ [(58, .bool q_36), (48, .bool true)] ∧ Wd w w_ [v_2.ownBlock]) ?_ ?_
          · by_cases hc : (t_6.1 == 500) = false
            · rw [if_pos hc] at eq_36; rw [hc] at S
              refine wl_pureK (l' := [(54, .int .i64 t_6.1), (53, .int .i64 x1), (52, v_2), (51, .bool false), (48, .bool true)]) S tys tys_ok 3 [54, 53, 52, 51, 48] (by kernel_rfl) ?_
              clear S; intro a S
              obtain ⟨x_37, ex_37, eq_36⟩ := bindS eq_36
              refine w_go S rfl (op_arith S .i64 (t_6.1 + 1) rfl (.inl rfl) rfl rfl rfl rfl ex_37 ?_)
              clear S; intro a S
              obtain ⟨t_38, et_38, eq_36⟩ := bindS eq_36
              refine w_go S rfl (op_call (vs := [v_2, .int .i64 x1, .int .i64 x_37]) S rfl cb23 rfl rfl rfl (c23 (Kx K w.heap.size []) n w_34 (⟨t_1.xs, t_1.cap⟩ : Sl (Int × Int × Bool × Bool × Bool × Bool × Int)) _ (Ow.read R_3) x1 G1 x_37 (ckI_some ex_37).2.1 et_38) ?_)
              rintro _ w_42 ⟨v_39, rfl, R_40, hb_41⟩; refine ⟨_, rfl, ?_⟩
              clear S; intro a S
              replace R_3 := R_3.step hb_41
              replace W := W.step hb_41
              obtain ⟨rfl, GR_40⟩ := RepV.int R_40
              refine wl_pureK (l' := [(58, .bool (t_38 == 0)), (48, .bool true)]) S tys tys_ok 2 [58, 48] (by kernel_rfl) ?_
              clear S; intro a S
              obtain rfl := Option.some.inj eq_36
              exact ⟨S.sub (by exact ⟨rfl, rfl, trivial⟩), W⟩
            · rw [if_neg hc] at eq_36; rw [show (t_6.1 == 500) = true from (by simpa using hc)] at S
              refine wl_pureK (l' := [(58, .bool true), (48, .bool true)]) S tys tys_ok 7 [58, 48] (by kernel_rfl) ?_
              clear S; intro a S
              obtain rfl := Option.some.inj eq_36
              exact ⟨S.sub (by exact ⟨rfl, rfl, trivial⟩), W⟩
          clear S W eq_36; rintro a w_43 ⟨S, W⟩
          refine wl_pure (l' := [(59, .bool q_36), (58, .bool q_36), (48, .bool true)]) S tys tys_ok 1 (by kernel_rfl) ?_
          clear S; intro a S
          obtain rfl := Option.some.inj eq_35
          exact ⟨S.sub (by exact ⟨rfl, trivial⟩), W⟩
        · rw [if_neg hc] at eq_35; rw [show q_28 = false from Bool.eq_false_iff.2 hc] at S
          refine wl_pureK (l' := [(59, .bool false)]) S tys tys_ok 11 [59] (by kernel_rfl) ?_
          clear S; intro a S
          obtain rfl := Option.some.inj eq_35
          exact ⟨S.sub (by exact ⟨rfl, trivial⟩), W⟩
      clear S W eq_35; rintro a w_44 ⟨S, W⟩
      refine wl_pure (l' := [(60, .bool q_35), (59, .bool q_35)]) S tys tys_ok 1 (by kernel_rfl) ?_
      clear S; intro a S
      obtain ⟨q_45, eq_45, h⟩ := bindS h
      refine seg 2 (fun a_ w_ => St 63 a_ [(62, .bool q_45)] ∧ Wd w w_ [v_2.ownBlock]) ?_ ?_
      · by_cases hc : q_35 = true
        · rw [if_pos hc] at eq_45; rw [hc] at S
          obtain ⟨t_46, et_46, eq_45⟩ := bindS eq_45
          refine w_go S rfl (op_call (vs := []) S rfl cb19 rfl rfl rfl (c19 (Kx K w.heap.size [v_2.ownBlock]) n w_44  et_46) ?_)
          rintro _ w_50 ⟨v_47, rfl, R_48, hb_49⟩; refine ⟨_, rfl, ?_⟩
          replace R_48 := RepV.back R_48 W
          clear S; intro a S
          replace W := W.step hb_49
          obtain rfl := RepV.bool R_48
          refine wl_pureK (l' := [(62, .bool t_46)]) S tys tys_ok 1 [62] (by kernel_rfl) ?_
          clear S; intro a S
          obtain rfl := Option.some.inj eq_45
          exact ⟨S.sub (by exact ⟨rfl, trivial⟩), W⟩
        · rw [if_neg hc] at eq_45; rw [show q_35 = false from Bool.eq_false_iff.2 hc] at S
          refine wl_pureK (l' := [(62, .bool false)]) S tys tys_ok 2 [62] (by kernel_rfl) ?_
          clear S; intro a S
          obtain rfl := Option.some.inj eq_45
          exact ⟨S.sub (by exact ⟨rfl, trivial⟩), W⟩
      clear S W eq_45; rintro a w_51 ⟨S, W⟩
      refine wl_pure (l' := [(4, .bool q_45), (62, .bool q_45)]) S tys tys_ok 1 (by kernel_rfl) ?_
      clear S; intro a S
      refine wpList_nil ?_
      refine then_n ?_
      replace S := S.sub (l' := [(4, .bool q_45)]) (by exact ⟨rfl, trivial⟩)
      refine wp_ret ?_
      obtain rfl := Option.some.inj h
      exact b_ret1 S rfl rfl ⟨_, rfl, RepV.mkBool, W.below⟩

end Go.Proofs.Ytnelgpgmggcdcaa
