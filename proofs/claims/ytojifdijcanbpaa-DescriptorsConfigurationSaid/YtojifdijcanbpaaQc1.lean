/- x. -/
import Derived.Test.YtojifdijcanbpaaQ1
set_option linter.unusedVariables false
set_option linter.unusedSimpArgs false
namespace Go.Proofs.Ytojifdijcanbpaa
open Go.RowKit

def p18 (n : Nat) (x0 : Int × Int × Int × Int × Bool × Bool × Int) : Option ((Sl (Int)) × (Int)) :=
  (if (decide (x0.1 < 9)) = false then some (decide (x0.1 > 4096)) else some true).bind fun q_7 =>
  (if q_7 = false then some (decide (x0.2.1 < 1)) else some true).bind fun q_10 =>
  (if q_10 = false then some (decide (x0.2.1 > 16)) else some true).bind fun q_13 =>
  (if q_13 = false then some (decide (x0.2.2.1 < 1)) else some true).bind fun q_16 =>
  (if q_16 = false then some (decide (x0.2.2.2.2.2.2 > 250)) else some true).bind fun q_19 =>
  if q_19 then (some ((⟨[], some 0⟩ : Sl (Int)), 1)) else (if x0.2.2.2.2.1 then (some (bitsI .or .u8 128 64)) else some 128).bind fun (j_24 : (Int)) => (if x0.2.2.2.2.2.1 then (some (bitsI .or .u8 j_24 32)) else some j_24).bind fun (j_29 : (Int)) => (p42 n x0.1).bind fun t_34 => (p43 n x0.1).bind fun t_41 => (p41 n 2 (⟨[t_34, t_41, x0.2.1, x0.2.2.1, x0.2.2.2.1, j_29, x0.2.2.2.2.2.2], some 7⟩ : Sl (Int))).bind fun t_58 => some (t_58, 0)
set_option maxHeartbeats 4000000 in
set_option maxRecDepth 100000 in
/-- plugboard/descriptors.EncodeConfiguration -/
theorem c18 (K : Nat → Prop) (n : Nat) (w : World) (x0 : Int × Int × Int × Int × Bool × Bool × Int) (v0 : Value) (R0 : RepV (.st (.pair (.int .u16) (.pair (.int .u8) (.pair (.int .u8) (.pair (.int .u8) (.pair .bool (.pair .bool (.int .u8)))))))) w K v0 x0) {r : (Sl (Int)) × (Int)} (h : p18 n x0 = some r) :
    Calls Try.prog 18 #[v0] w (Ret2 (.sl (.int .u8)) (.int .i64) w (Kx K w.heap.size []) r) := by
  refine enter (args := [v0]) Try.func18 rfl 58 rfl rfl fun a S => ?_
  have W := Wd.start w
  replace R0 := R0.arg
  unfold p18 at h
  replace S : St 58 a [(0, v0)] := S
  refine wp_seq ?_
  refine wp_region_lit ?_
  refine w_go S rfl (op_box S rfl rfl rfl rfl rfl R0 ?_)
  clear S; intro a w_3 b_1 hb_4 B_2 S
  replace R0 := R0.box hb_4
  replace W := W.box hb_4
  refine wl_pure (l' := [(3, .int .i64 0), (2, .slice .none 0 0), (1, .pointer (some (⟨b_1, 0, .none⟩ : Addr))), (0, v0)]) S tys tys_ok 2 (by kernel_rfl) ?_
  clear S; intro a S
  refine wpList_nil ?_
  refine then_n ?_
  replace S := S.sub (l' := [(1, .pointer (some (⟨b_1, 0, .none⟩ : Addr)))]) (by exact ⟨rfl, trivial⟩)
  refine wp_seq ?_
  refine wp_seq ?_
  refine wp_region_lit ?_
  refine wl_pure (l' := [(5, .pointer (some ((⟨b_1, 0, .none⟩ : Addr).add (coff (.pair (.int .u16) (.pair (.int .u8) (.pair (.int .u8) (.pair (.int .u8) (.pair .bool (.pair .bool (.int .u8))))))) 0)))), (1, .pointer (some (⟨b_1, 0, .none⟩ : Addr)))]) S tys tys_ok 1 (by kernel_rfl) ?_
  clear S; intro a S
  refine w_go S rfl (op_load (t := (.int .u16)) (x := x0.1) S rfl ty33 rfl rfl rfl (RepAt.add 0 (RepAt.st B_2.at_)) ?_)
  clear S; intro a v_5 R_6 S
  obtain ⟨rfl, GR_6⟩ := RepV.int R_6
  refine wl_pure (l' := [(8, .bool (decide (x0.1 < 9))), (7, .bool (decide (x0.1 < 9))), (6, .int .u16 x0.1), (5, .pointer (some ((⟨b_1, 0, .none⟩ : Addr).add (coff (.pair (.int .u16) (.pair (.int .u8) (.pair (.int .u8) (.pair (.int .u8) (.pair .bool (.pair .bool (.int .u8))))))) 0)))), (1, .pointer (some (⟨b_1, 0, .none⟩ : Addr)))]) S tys tys_ok 2 (by kernel_rfl) ?_
  clear S; intro a S
  obtain ⟨q_7, eq_7, h⟩ := bindS h
  refine seg 4 (fun a_ w_ => w_3 = w_ ∧ St 58 a_ [(12, .bool q_7), (1, .pointer (some (⟨b_1, 0, .none⟩ : Addr)))]) ?_ ?_
  · by_cases hc : (decide (x0.1 < 9)) = false
    · rw [if_pos hc] at eq_7; rw [hc] at S
      refine wl_pure (l' := [(9, .pointer (some ((⟨b_1, 0, .none⟩ : Addr).add (coff (.pair (.int .u16) (.pair (.int .u8) (.pair (.int .u8) (.pair (.int .u8) (.pair .bool (.pair .bool (.int .u8))))))) 0)))), (8, .bool false), (7, .bool false), (6, .int .u16 x0.1), (5, .pointer (some ((⟨b_1, 0, .none⟩ : Addr).add (coff (.pair (.int .u16) (.pair (.int .u8) (.pair (.int .u8) (.pair (.int .u8) (.pair .bool (.pair .bool (.int .u8))))))) 0)))), (1, .pointer (some (⟨b_1, 0, .none⟩ : Addr)))]) S tys tys_ok 1 (by kernel_rfl) ?_
      clear S; intro a S
      refine w_go S rfl (op_load (t := (.int .u16)) (x := x0.1) S rfl ty33 rfl rfl rfl (RepAt.add 0 (RepAt.st B_2.at_)) ?_)
      clear S; intro a v_8 R_9 S
      obtain ⟨rfl, GR_9⟩ := RepV.int R_9
      refine wl_pure (l' := [(12, .bool (decide (x0.1 > 4096))), (11, .bool (decide (x0.1 > 4096))), (10, .int .u16 x0.1), (9, .pointer (some ((⟨b_1, 0, .none⟩ : Addr).add (coff (.pair (.int .u16) (.pair (.int .u8) (.pair (.int .u8) (.pair (.int .u8) (.pair .bool (.pair .bool (.int .u8))))))) 0)))), (8, .bool false), (7, .bool false), (6, .int .u16 x0.1), (5, .pointer (some ((⟨b_1, 0, .none⟩ : Addr).add (coff (.pair (.int .u16) (.pair (.int .u8) (.pair (.int .u8) (.pair (.int .u8) (.pair .bool (.pair .bool (.int .u8))))))) 0)))), (1, .pointer (some (⟨b_1, 0, .none⟩ : Addr)))]) S tys tys_ok 2 (by kernel_rfl) ?_
      clear S; intro a S
      obtain rfl := Option.some.inj eq_7
      exact ⟨rfl, S.sub (by exact ⟨rfl, rfl, trivial⟩)⟩
    · rw [if_neg hc] at eq_7; rw [show (decide (x0.1 < 9)) = true from (by simpa using hc)] at S
      refine wl_pure (l' := [(12, .bool true), (11, undef), (10, undef), (9, undef), (8, .bool true), (7, .bool true), (6, .int .u16 x0.1), (5, .pointer (some ((⟨b_1, 0, .none⟩ : Addr).add (coff (.pair (.int .u16) (.pair (.int .u8) (.pair (.int .u8) (.pair (.int .u8) (.pair .bool (.pair .bool (.int .u8))))))) 0)))), (1, .pointer (some (⟨b_1, 0, .none⟩ : Addr)))]) S tys tys_ok 4 (by kernel_rfl) ?_
      clear S; intro a S
      obtain rfl := Option.some.inj eq_7
      exact ⟨rfl, S.sub (by exact ⟨rfl, rfl, trivial⟩)⟩
  clear S eq_7; rintro a _ ⟨rfl, S⟩
  refine wl_pure (l' := [(13, .bool q_7), (12, .bool q_7), (1, .pointer (some (⟨b_1, 0, .none⟩ : Addr)))]) S tys tys_ok 1 (by kernel_rfl) ?_
  clear S; intro a S
  obtain ⟨q_10, eq_10, h⟩ := bindS h
  refine seg 4 (fun a_ w_ => w_3 = w_ ∧ St 58 a_ [(17, .bool q_10), (1, .pointer (some (⟨b_1, 0, .none⟩ : Addr)))]) ?_ ?_
  · by_cases hc : q_7 = false
    · rw [if_pos hc] at eq_10; rw [hc] at S
      refine wl_pure (l' := [(14, .pointer (some ((⟨b_1, 0, .none⟩ : Addr).add (coff (.pair (.int .u16) (.pair (.int .u8) (.pair (.int .u8) (.pair (.int .u8) (.pair .bool (.pair .bool (.int .u8))))))) 1)))), (13, .bool false), (12, .bool false), (1, .pointer (some (⟨b_1, 0, .none⟩ : Addr)))]) S tys tys_ok 1 (by kernel_rfl) ?_
      clear S; intro a S
      refine w_go S rfl (op_load (t := (.int .u8)) (x := x0.2.1) S rfl ty5 rfl rfl rfl (RepAt.add 1 (RepAt.st B_2.at_)) ?_)
      clear S; intro a v_11 R_12 S
      obtain ⟨rfl, GR_12⟩ := RepV.int R_12
      refine wl_pure (l' := [(17, .bool (decide (x0.2.1 < 1))), (16, .bool (decide (x0.2.1 < 1))), (15, .int .u8 x0.2.1), (14, .pointer (some ((⟨b_1, 0, .none⟩ : Addr).add (coff (.pair (.int .u16) (.pair (.int .u8) (.pair (.int .u8) (.pair (.int .u8) (.pair .bool (.pair .bool (.int .u8))))))) 1)))), (13, .bool false), (12, .bool false), (1, .pointer (some (⟨b_1, 0, .none⟩ : Addr)))]) S tys tys_ok 2 (by kernel_rfl) ?_
      clear S; intro a S
      obtain rfl := Option.some.inj eq_10
      exact ⟨rfl, S.sub (by exact ⟨rfl, rfl, trivial⟩)⟩
    · rw [if_neg hc] at eq_10; rw [show q_7 = true from (by simpa using hc)] at S
      refine wl_pure (l' := [(17, .bool true), (16, undef), (15, undef), (14, undef), (13, .bool true), (12, .bool true), (1, .pointer (some (⟨b_1, 0, .none⟩ : Addr)))]) S tys tys_ok 4 (by kernel_rfl) ?_
      clear S; intro a S
      obtain rfl := Option.some.inj eq_10
      exact ⟨rfl, S.sub (by exact ⟨rfl, rfl, trivial⟩)⟩
  clear S eq_10; rintro a _ ⟨rfl, S⟩
  refine wl_pure (l' := [(18, .bool q_10), (17, .bool q_10), (1, .pointer (some (⟨b_1, 0, .none⟩ : Addr)))]) S tys tys_ok 1 (by kernel_rfl) ?_
  clear S; intro a S
  obtain ⟨q_13, eq_13, h⟩ := bindS h
  refine seg 4 (fun a_ w_ => w_3 = w_ ∧ St 58 a_ [(22, .bool q_13), (1, .pointer (some (⟨b_1, 0, .none⟩ : Addr)))]) ?_ ?_
  · by_cases hc : q_10 = false
    · rw [if_pos hc] at eq_13; rw [hc] at S
      refine wl_pure (l' := [(19, .pointer (some ((⟨b_1, 0, .none⟩ : Addr).add (coff (.pair (.int .u16) (.pair (.int .u8) (.pair (.int .u8) (.pair (.int .u8) (.pair .bool (.pair .bool (.int .u8))))))) 1)))), (18, .bool false), (17, .bool false), (1, .pointer (some (⟨b_1, 0, .none⟩ : Addr)))]) S tys tys_ok 1 (by kernel_rfl) ?_
      clear S; intro a S
      refine w_go S rfl (op_load (t := (.int .u8)) (x := x0.2.1) S rfl ty5 rfl rfl rfl (RepAt.add 1 (RepAt.st B_2.at_)) ?_)
      clear S; intro a v_14 R_15 S
      obtain ⟨rfl, GR_15⟩ := RepV.int R_15
      refine wl_pure (l' := [(22, .bool (decide (x0.2.1 > 16))), (21, .bool (decide (x0.2.1 > 16))), (20, .int .u8 x0.2.1), (19, .pointer (some ((⟨b_1, 0, .none⟩ : Addr).add (coff (.pair (.int .u16) (.pair (.int .u8) (.pair (.int .u8) (.pair (.int .u8) (.pair .bool (.pair .bool (.int .u8))))))) 1)))), (18, .bool false), (17, .bool false), (1, .pointer (some (⟨b_1, 0, .none⟩ : Addr)))]) S tys tys_ok 2 (by kernel_rfl) ?_
      clear S; intro a S
      obtain rfl := Option.some.inj eq_13
      exact ⟨rfl, S.sub (by exact ⟨rfl, rfl, trivial⟩)⟩
    · rw [if_neg hc] at eq_13; rw [show q_10 = true from (by simpa using hc)] at S
      refine wl_pure (l' := [(22, .bool true), (21, undef), (20, undef), (19, undef), (18, .bool true), (17, .bool true), (1, .pointer (some (⟨b_1, 0, .none⟩ : Addr)))]) S tys tys_ok 4 (by kernel_rfl) ?_
      clear S; intro a S
      obtain rfl := Option.some.inj eq_13
      exact ⟨rfl, S.sub (by exact ⟨rfl, rfl, trivial⟩)⟩
  clear S eq_13; rintro a _ ⟨rfl, S⟩
  refine wl_pure (l' := [(23, .bool q_13), (22, .bool q_13), (1, .pointer (some (⟨b_1, 0, .none⟩ : Addr)))]) S tys tys_ok 1 (by kernel_rfl) ?_
  clear S; intro a S
  obtain ⟨q_16, eq_16, h⟩ := bindS h
  refine seg 4 (fun a_ w_ => w_3 = w_ ∧ St 58 a_ [(27, .bool q_16), (1, .pointer (some (⟨b_1, 0, .none⟩ : Addr)))]) ?_ ?_
  · by_cases hc : q_13 = false
    · rw [if_pos hc] at eq_16; rw [hc] at S
      refine wl_pure (l' := [(24, .pointer (some ((⟨b_1, 0, .none⟩ : Addr).add (coff (.pair (.int .u16) (.pair (.int .u8) (.pair (.int .u8) (.pair (.int .u8) (.pair .bool (.pair .bool (.int .u8))))))) 2)))), (23, .bool false), (22, .bool false), (1, .pointer (some (⟨b_1, 0, .none⟩ : Addr)))]) S tys tys_ok 1 (by kernel_rfl) ?_
      clear S; intro a S
      refine w_go S rfl (op_load (t := (.int .u8)) (x := x0.2.2.1) S rfl ty5 rfl rfl rfl (RepAt.add 2 (RepAt.st B_2.at_)) ?_)
      clear S; intro a v_17 R_18 S
      obtain ⟨rfl, GR_18⟩ := RepV.int R_18
      refine wl_pure (l' := [(27, .bool (decide (x0.2.2.1 < 1))), (26, .bool (decide (x0.2.2.1 < 1))), (25, .int .u8 x0.2.2.1), (24, .pointer (some ((⟨b_1, 0, .none⟩ : Addr).add (coff (.pair (.int .u16) (.pair (.int .u8) (.pair (.int .u8) (.pair (.int .u8) (.pair .bool (.pair .bool (.int .u8))))))) 2)))), (23, .bool false), (22, .bool false), (1, .pointer (some (⟨b_1, 0, .none⟩ : Addr)))]) S tys tys_ok 2 (by kernel_rfl) ?_
      clear S; intro a S
      obtain rfl := Option.some.inj eq_16
      exact ⟨rfl, S.sub (by exact ⟨rfl, rfl, trivial⟩)⟩
    · rw [if_neg hc] at eq_16; rw [show q_13 = true from (by simpa using hc)] at S
      refine wl_pure (l' := [(27, .bool true), (26, undef), (25, undef), (24, undef), (23, .bool true), (22, .bool true), (1, .pointer (some (⟨b_1, 0, .none⟩ : Addr)))]) S tys tys_ok 4 (by kernel_rfl) ?_
      clear S; intro a S
      obtain rfl := Option.some.inj eq_16
      exact ⟨rfl, S.sub (by exact ⟨rfl, rfl, trivial⟩)⟩
  clear S eq_16; rintro a _ ⟨rfl, S⟩
  refine wl_pure (l' := [(28, .bool q_16), (27, .bool q_16), (1, .pointer (some (⟨b_1, 0, .none⟩ : Addr)))]) S tys tys_ok 1 (by kernel_rfl) ?_
  clear S; intro a S
  obtain ⟨q_19, eq_19, h⟩ := bindS h
  refine seg 4 (fun a_ w_ => w_3 = w_ ∧ St 58 a_ [(32, .bool q_19), (1, .pointer (some (⟨b_1, 0, .none⟩ : Addr)))]) ?_ ?_
  · by_cases hc : q_16 = false
    · rw [if_pos hc] at eq_19; rw [hc] at S
      refine wl_pure (l' := [(29, .pointer (some ((⟨b_1, 0, .none⟩ : Addr).add (coff (.pair (.int .u16) (.pair (.int .u8) (.pair (.int .u8) (.pair (.int .u8) (.pair .bool (.pair .bool (.int .u8))))))) 6)))), (28, .bool false), (27, .bool false), (1, .pointer (some (⟨b_1, 0, .none⟩ : Addr)))]) S tys tys_ok 1 (by kernel_rfl) ?_
      clear S; intro a S
      refine w_go S rfl (op_load (t := (.int .u8)) (x := x0.2.2.2.2.2.2) S rfl ty5 rfl rfl rfl (RepAt.add 6 (RepAt.st B_2.at_)) ?_)
      clear S; intro a v_20 R_21 S
      obtain ⟨rfl, GR_21⟩ := RepV.int R_21
      refine wl_pure (l' := [(32, .bool (decide (x0.2.2.2.2.2.2 > 250))), (31, .bool (decide (x0.2.2.2.2.2.2 > 250))), (30, .int .u8 x0.2.2.2.2.2.2), (29, .pointer (some ((⟨b_1, 0, .none⟩ : Addr).add (coff (.pair (.int .u16) (.pair (.int .u8) (.pair (.int .u8) (.pair (.int .u8) (.pair .bool (.pair .bool (.int .u8))))))) 6)))), (28, .bool false), (27, .bool false), (1, .pointer (some (⟨b_1, 0, .none⟩ : Addr)))]) S tys tys_ok 2 (by kernel_rfl) ?_
      clear S; intro a S
      obtain rfl := Option.some.inj eq_19
      exact ⟨rfl, S.sub (by exact ⟨rfl, rfl, trivial⟩)⟩
    · rw [if_neg hc] at eq_19; rw [show q_16 = true from (by simpa using hc)] at S
      refine wl_pure (l' := [(32, .bool true), (31, undef), (30, undef), (29, undef), (28, .bool true), (27, .bool true), (1, .pointer (some (⟨b_1, 0, .none⟩ : Addr)))]) S tys tys_ok 4 (by kernel_rfl) ?_
      clear S; intro a S
      obtain rfl := Option.some.inj eq_19
      exact ⟨rfl, S.sub (by exact ⟨rfl, rfl, trivial⟩)⟩
  clear S eq_19; rintro a _ ⟨rfl, S⟩
  refine wpList_nil ?_
  refine then_n ?_
  refine wp_cond_split (S.eval (show ev _ _ = some (.bool q_19) from rfl)) ?_ ?_
  · intro hc
    rw [if_pos hc] at h
    refine wp_seq ?_
    refine wp_region_lit ?_
    refine wl_pure (l' := [(3, .int .i64 1), (2, .slice .none 0 0), (32, .bool q_19), (1, .pointer (some (⟨b_1, 0, .none⟩ : Addr)))]) S tys tys_ok 2 (by kernel_rfl) ?_
    clear S; intro a S
    refine wpList_nil ?_
    refine then_n ?_
    replace S := S.sub (l' := [(3, .int .i64 1), (2, .slice .none 0 0)]) (by exact ⟨rfl, rfl, trivial⟩)
    refine wp_ret ?_
    refine then_r ?_
    obtain rfl := Option.some.inj h
    exact b_ret2 S rfl rfl rfl ⟨_, _, rfl, RepV.nil, (RepV.mkInt (by decide)), W.below⟩
  · intro hc
    rw [if_neg (Bool.eq_false_iff.1 hc)] at h
    refine wp_skip ?_
    refine then_n ?_
    replace S := S.sub (l' := [(1, .pointer (some (⟨b_1, 0, .none⟩ : Addr)))]) (by exact ⟨rfl, trivial⟩)
    refine wp_seq ?_
    refine wp_region_lit ?_
    refine wl_pure (l' := [(4, .int .u8 128), (1, .pointer (some (⟨b_1, 0, .none⟩ : Addr)))]) S tys tys_ok 1 (by kernel_rfl) ?_
    clear S; intro a S
    refine wpList_nil ?_
    refine then_n ?_
    refine wp_seq ?_
    refine wp_seq ?_
    refine wp_region_lit ?_
    refine wl_pure (l' := [(33, .pointer (some ((⟨b_1, 0, .none⟩ : Addr).add (coff (.pair (.int .u16) (.pair (.int .u8) (.pair (.int .u8) (.pair (.int .u8) (.pair .bool (.pair .bool (.int .u8))))))) 4)))), (4, .int .u8 128), (1, .pointer (some (⟨b_1, 0, .none⟩ : Addr)))]) S tys tys_ok 1 (by kernel_rfl) ?_
    clear S; intro a S
    refine w_go S rfl (op_load (t := .bool) (x := x0.2.2.2.2.1) S rfl ty4 rfl rfl rfl (RepAt.add 4 (RepAt.st B_2.at_)) ?_)
    clear S; intro a v_22 R_23 S
    obtain rfl := RepV.bool R_23
    refine wpList_nil ?_
    refine then_n ?_
    replace S := S.sub (l' := [(34, .bool x0.2.2.2.2.1), (4, .int .u8 128), (1, .pointer (some (⟨b_1, 0, .none⟩ : Addr)))]) (by exact ⟨rfl, rfl, rfl, trivial⟩)
    obtain ⟨j_24, ej_24, h⟩ := bindS h
    refine wp_cut_ (fun a_ w_ => St 58 a_ [(4, .int .u8 j_24), (1, .pointer (some (⟨b_1, 0, .none⟩ : Addr)))] ∧ Wd w w_ [some b_1] ∧ InR .u8 j_24 ∧ Bx (.st (.pair (.int .u16) (.pair (.int .u8) (.pair (.int .u8) (.pair (.int .u8) (.pair .bool (.pair .bool (.int .u8)))))))) 51 w_ (Kx K w.heap.size [some b_1]) b_1 x0) ?_ ?_
    · refine wp_cond_split (S.eval (show ev _ _ = some (.bool x0.2.2.2.2.1) from rfl)) ?_ ?_
      · intro hc
        rw [if_pos hc] at ej_24
        refine wp_region_lit ?_
        refine wl_pure (l' := [(4, .int .u8 (bitsI .or .u8 128 64)), (36, .int .u8 (bitsI .or .u8 128 64)), (35, .int .u8 128), (34, .bool x0.2.2.2.2.1), (4, .int .u8 128), (1, .pointer (some (⟨b_1, 0, .none⟩ : Addr)))]) S tys tys_ok 3 (by kernel_rfl) ?_
        clear S; intro a S
        refine wpList_nil ?_
        refine then_n ?_
        obtain rfl := Option.some.inj ej_24
        exact ⟨S.sub (by exact ⟨rfl, rfl, trivial⟩), W, inR_bits, B_2⟩
      · intro hc
        rw [if_neg (Bool.eq_false_iff.1 hc)] at ej_24
        refine wp_skip ?_
        refine then_n ?_
        obtain rfl := Option.some.inj ej_24
        exact ⟨S.sub (by exact ⟨rfl, rfl, trivial⟩), W, (by decide), B_2⟩
    clear S W; rintro a w_26 ⟨S, W, G_25, B_2⟩
    refine then_n ?_
    refine wp_seq ?_
    refine wp_seq ?_
    refine wp_region_lit ?_
    refine wl_pure (l' := [(37, .pointer (some ((⟨b_1, 0, .none⟩ : Addr).add (coff (.pair (.int .u16) (.pair (.int .u8) (.pair (.int .u8) (.pair (.int .u8) (.pair .bool (.pair .bool (.int .u8))))))) 5)))), (4, .int .u8 j_24), (1, .pointer (some (⟨b_1, 0, .none⟩ : Addr)))]) S tys tys_ok 1 (by kernel_rfl) ?_
    clear S; intro a S
    refine w_go S rfl (op_load (t := .bool) (x := x0.2.2.2.2.2.1) S rfl ty4 rfl rfl rfl (RepAt.add 5 (RepAt.st B_2.at_)) ?_)
    clear S; intro a v_27 R_28 S
    obtain rfl := RepV.bool R_28
    refine wpList_nil ?_
    refine then_n ?_
    replace S := S.sub (l' := [(38, .bool x0.2.2.2.2.2.1), (4, .int .u8 j_24), (1, .pointer (some (⟨b_1, 0, .none⟩ : Addr)))]) (by exact ⟨rfl, rfl, rfl, trivial⟩)
    obtain ⟨j_29, ej_29, h⟩ := bindS h
    refine wp_cut_ (fun a_ w_ => St 58 a_ [(4, .int .u8 j_29), (1, .pointer (some (⟨b_1, 0, .none⟩ : Addr)))] ∧ Wd w w_ [some b_1] ∧ InR .u8 j_29 ∧ Bx (.st (.pair (.int .u16) (.pair (.int .u8) (.pair (.int .u8) (.pair (.int .u8) (.pair .bool (.pair .bool (.int .u8)))))))) 51 w_ (Kx K w.heap.size [some b_1]) b_1 x0) ?_ ?_
    · refine wp_cond_split (S.eval (show ev _ _ = some (.bool x0.2.2.2.2.2.1) from rfl)) ?_ ?_
      · intro hc
        rw [if_pos hc] at ej_29
        refine wp_region_lit ?_
        refine wl_pure (l' := [(4, .int .u8 (bitsI .or .u8 j_24 32)), (40, .int .u8 (bitsI .or .u8 j_24 32)), (39, .int .u8 j_24), (38, .bool x0.2.2.2.2.2.1), (4, .int .u8 j_24), (1, .pointer (some (⟨b_1, 0, .none⟩ : Addr)))]) S tys tys_ok 3 (by kernel_rfl) ?_
        clear S; intro a S
        refine wpList_nil ?_
        refine then_n ?_
        obtain rfl := Option.some.inj ej_29
        exact ⟨S.sub (by exact ⟨rfl, rfl, trivial⟩), W, inR_bits, B_2⟩
      · intro hc
        rw [if_neg (Bool.eq_false_iff.1 hc)] at ej_29
        refine wp_skip ?_
        refine then_n ?_
        obtain rfl := Option.some.inj ej_29
        exact ⟨S.sub (by exact ⟨rfl, rfl, trivial⟩), W, G_25, B_2⟩
    clear S W; rintro a w_31 ⟨S, W, G_30, B_2⟩
    refine then_n ?_
    refine wp_seq ?_
    obtain ⟨t_34, et_34, h⟩ := bindS h
    obtain ⟨t_41, et_41, h⟩ := bindS h
    obtain ⟨t_58, et_58, h⟩ := bindS h
    have hR : Rel (Kx K w.heap.size [some b_1]) Bl := Bl.rel _
    refine wp_region_all hR [eqv (.pointer (some ((⟨b_1, 0, .none⟩ : Addr).add (coff (.pair (.int .u16) (.pair (.int .u8) (.pair (.int .u8) (.pair (.int .u8) (.pair .bool (.pair .bool (.int .u8))))))) 0)))), isI .u16 x0.1, isI .u8 t_34, eqv (.pointer (some ((⟨b_1, 0, .none⟩ : Addr).add (coff (.pair (.int .u16) (.pair (.int .u8) (.pair (.int .u8) (.pair (.int .u8) (.pair .bool (.pair .bool (.int .u8))))))) 0)))), isI .u16 x0.1, isI .u8 t_41, eqv (.pointer (some ((⟨b_1, 0, .none⟩ : Addr).add (coff (.pair (.int .u16) (.pair (.int .u8) (.pair (.int .u8) (.pair (.int .u8) (.pair .bool (.pair .bool (.int .u8))))))) 1)))), isI .u8 x0.2.1, eqv (.pointer (some ((⟨b_1, 0, .none⟩ : Addr).add (coff (.pair (.int .u16) (.pair (.int .u8) (.pair (.int .u8) (.pair (.int .u8) (.pair .bool (.pair .bool (.int .u8))))))) 2)))), isI .u8 x0.2.2.1, eqv (.pointer (some ((⟨b_1, 0, .none⟩ : Addr).add (coff (.pair (.int .u16) (.pair (.int .u8) (.pair (.int .u8) (.pair (.int .u8) (.pair .bool (.pair .bool (.int .u8))))))) 3)))), isI .u8 x0.2.2.2.1, isI .u8 j_29, eqv (.pointer (some ((⟨b_1, 0, .none⟩ : Addr).add (coff (.pair (.int .u16) (.pair (.int .u8) (.pair (.int .u8) (.pair (.int .u8) (.pair .bool (.pair .bool (.int .u8))))))) 6)))), isI .u8 x0.2.2.2.2.2.2, isRep (.sl (.int .u8)) (Kx K w.heap.size [some b_1]) (⟨[t_34, t_41, x0.2.1, x0.2.2.1, x0.2.2.2.1, j_29, x0.2.2.2.2.2.2], some 7⟩ : Sl (Int)), isRep (.sl (.int .u8)) (Kx K w.heap.size [some b_1]) t_58, isRep (.sl (.int .u8)) (Kx K w.heap.size [some b_1]) t_58, eqv (.int .i64 0)] [[], [(0, 41)], [(1, 42)], [], [(3, 44)], [(4, 45)], [], [(6, 47)], [], [(8, 49)], [], [(10, 51)], [], [], [(13, 54)], [(2, 43), (5, 46), (7, 48), (9, 50), (11, 52), (12, 53), (14, 55)], [(15, 56)], [(16, 57)], []] (by kernel_rfl) (by rw [S.size]; kernel_rfl) (by kernel_rfl) (by kernel_rfl) rfl ⟨(stab_eqv _), stab_I, stab_I, (stab_eqv _), stab_I, stab_I, (stab_eqv _), stab_I, (stab_eqv _), stab_I, (stab_eqv _), stab_I, stab_I, (stab_eqv _), stab_I, (stab_rep hR), (stab_rep hR), (stab_rep hR), (stab_eqv _), trivial⟩ ?_ ?_
    ·
      refine RunAll.cons (eqv (.pointer (some ((⟨b_1, 0, .none⟩ : Addr).add (coff (.pair (.int .u16) (.pair (.int .u8) (.pair (.int .u8) (.pair (.int .u8) (.pair .bool (.pair .bool (.int .u8))))))) 0))))) [] rfl rfl ?_ ?_
      · intro W_ hW
        have S1 := S
        refine fill_nil S1 ?_; clear S1; intro a_ S1
        replace B_2 := B_2.step hW
        have S0 := S.defers; replace S := S1; clear S1
        refine wl_pure (l' := [(41, .pointer (some ((⟨b_1, 0, .none⟩ : Addr).add (coff (.pair (.int .u16) (.pair (.int .u8) (.pair (.int .u8) (.pair (.int .u8) (.pair .bool (.pair .bool (.int .u8))))))) 0)))), (4, .int .u8 j_29), (1, .pointer (some (⟨b_1, 0, .none⟩ : Addr)))]) S tys tys_ok 1 (by kernel_rfl) ?_; clear S; intro a S
        refine wpList_nil ?_
        exact RPost.mk_ S rfl S0 rfl (Below.refl _ _)
      refine RunAll.cons (isI .u16 x0.1) [(eqv (.pointer (some ((⟨b_1, 0, .none⟩ : Addr).add (coff (.pair (.int .u16) (.pair (.int .u8) (.pair (.int .u8) (.pair (.int .u8) (.pair .bool (.pair .bool (.int .u8))))))) 0)))), 41)] rfl rfl ?_ ?_
      · intro W_ hW
        have S1 := S
        intro v_64 hF_63; obtain rfl : v_64 = .pointer (some ((⟨b_1, 0, .none⟩ : Addr).add (coff (.pair (.int .u16) (.pair (.int .u8) (.pair (.int .u8) (.pair (.int .u8) (.pair .bool (.pair .bool (.int .u8))))))) 0))) := hF_63
        replace S1 := S1.put (by decide : 41 < 58) (.pointer (some ((⟨b_1, 0, .none⟩ : Addr).add (coff (.pair (.int .u16) (.pair (.int .u8) (.pair (.int .u8) (.pair (.int .u8) (.pair .bool (.pair .bool (.int .u8))))))) 0))))
        refine fill_nil S1 ?_; clear S1; intro a_ S1
        replace B_2 := B_2.step hW
        have S0 := S.defers; replace S := S1; clear S1
        refine w_go S rfl (op_load (t := (.int .u16)) (x := x0.1) S rfl ty33 rfl rfl rfl (RepAt.add 0 (RepAt.st B_2.at_)) ?_)
        clear S; intro a v_65 R_66 S
        obtain ⟨rfl, GR_66⟩ := RepV.int R_66
        refine wpList_nil ?_
        exact RPost.mk_ S rfl S0 ⟨rfl, GR_66⟩ (Below.refl _ _)
      refine RunAll.cons (isI .u8 t_34) [(isI .u16 x0.1, 42)] rfl rfl ?_ ?_
      · intro W_ hW
        have S1 := S
        rintro _ ⟨rfl, hF_67⟩
        replace S1 := S1.put (by decide : 42 < 58) (.int .u16 x0.1)
        refine fill_nil S1 ?_; clear S1; intro a_ S1
        replace W := W.step hW
        have S0 := S.defers; replace S := S1; clear S1
        refine w_go S rfl (op_call (vs := [.int .u16 x0.1]) S rfl cb42 rfl rfl rfl (c42 (Kx K w.heap.size [some b_1]) n W_ x0.1 hF_67 et_34) ?_)
        rintro _ w_72 ⟨v_69, rfl, R_70, hb_71⟩; refine ⟨_, rfl, ?_⟩
        replace R_70 := RepV.back R_70 W
        clear S; intro a S
        obtain ⟨rfl, GR_70⟩ := RepV.int R_70
        refine wpList_nil ?_
        exact RPost.mk_ S rfl S0 ⟨rfl, GR_70⟩ (hb_71)
      refine RunAll.cons (eqv (.pointer (some ((⟨b_1, 0, .none⟩ : Addr).add (coff (.pair (.int .u16) (.pair (.int .u8) (.pair (.int .u8) (.pair (.int .u8) (.pair .bool (.pair .bool (.int .u8))))))) 0))))) [] rfl rfl ?_ ?_
      · intro W_ hW
        have S1 := S
        refine fill_nil S1 ?_; clear S1; intro a_ S1
        replace B_2 := B_2.step hW
        have S0 := S.defers; replace S := S1; clear S1
        refine wl_pure (l' := [(44, .pointer (some ((⟨b_1, 0, .none⟩ : Addr).add (coff (.pair (.int .u16) (.pair (.int .u8) (.pair (.int .u8) (.pair (.int .u8) (.pair .bool (.pair .bool (.int .u8))))))) 0)))), (4, .int .u8 j_29), (1, .pointer (some (⟨b_1, 0, .none⟩ : Addr)))]) S tys tys_ok 1 (by kernel_rfl) ?_; clear S; intro a S
        refine wpList_nil ?_
        exact RPost.mk_ S rfl S0 rfl (Below.refl _ _)
      refine RunAll.cons (isI .u16 x0.1) [(eqv (.pointer (some ((⟨b_1, 0, .none⟩ : Addr).add (coff (.pair (.int .u16) (.pair (.int .u8) (.pair (.int .u8) (.pair (.int .u8) (.pair .bool (.pair .bool (.int .u8))))))) 0)))), 44)] rfl rfl ?_ ?_
      · intro W_ hW
        have S1 := S
        intro v_74 hF_73; obtain rfl : v_74 = .pointer (some ((⟨b_1, 0, .none⟩ : Addr).add (coff (.pair (.int .u16) (.pair (.int .u8) (.pair (.int .u8) (.pair (.int .u8) (.pair .bool (.pair .bool (.int .u8))))))) 0))) := hF_73
        replace S1 := S1.put (by decide : 44 < 58) (.pointer (some ((⟨b_1, 0, .none⟩ : Addr).add (coff (.pair (.int .u16) (.pair (.int .u8) (.pair (.int .u8) (.pair (.int .u8) (.pair .bool (.pair .bool (.int .u8))))))) 0))))
        refine fill_nil S1 ?_; clear S1; intro a_ S1
        replace B_2 := B_2.step hW
        have S0 := S.defers; replace S := S1; clear S1
        refine w_go S rfl (op_load (t := (.int .u16)) (x := x0.1) S rfl ty33 rfl rfl rfl (RepAt.add 0 (RepAt.st B_2.at_)) ?_)
        clear S; intro a v_75 R_76 S
        obtain ⟨rfl, GR_76⟩ := RepV.int R_76
        refine wpList_nil ?_
        exact RPost.mk_ S rfl S0 ⟨rfl, GR_76⟩ (Below.refl _ _)
      refine RunAll.cons (isI .u8 t_41) [(isI .u16 x0.1, 45)] rfl rfl ?_ ?_
      · intro W_ hW
        have S1 := S
        rintro _ ⟨rfl, hF_77⟩
        replace S1 := S1.put (by decide : 45 < 58) (.int .u16 x0.1)
        refine fill_nil S1 ?_; clear S1; intro a_ S1
        replace W := W.step hW
        have S0 := S.defers; replace S := S1; clear S1
        refine w_go S rfl (op_call (vs := [.int .u16 x0.1]) S rfl cb43 rfl rfl rfl (c43 (Kx K w.heap.size [some b_1]) n W_ x0.1 hF_77 et_41) ?_)
        rintro _ w_82 ⟨v_79, rfl, R_80, hb_81⟩; refine ⟨_, rfl, ?_⟩
        replace R_80 := RepV.back R_80 W
        clear S; intro a S
        obtain ⟨rfl, GR_80⟩ := RepV.int R_80
        refine wpList_nil ?_
        exact RPost.mk_ S rfl S0 ⟨rfl, GR_80⟩ (hb_81)
      refine RunAll.cons (eqv (.pointer (some ((⟨b_1, 0, .none⟩ : Addr).add (coff (.pair (.int .u16) (.pair (.int .u8) (.pair (.int .u8) (.pair (.int .u8) (.pair .bool (.pair .bool (.int .u8))))))) 1))))) [] rfl rfl ?_ ?_
      · intro W_ hW
        have S1 := S
        refine fill_nil S1 ?_; clear S1; intro a_ S1
        replace B_2 := B_2.step hW
        have S0 := S.defers; replace S := S1; clear S1
        refine wl_pure (l' := [(47, .pointer (some ((⟨b_1, 0, .none⟩ : Addr).add (coff (.pair (.int .u16) (.pair (.int .u8) (.pair (.int .u8) (.pair (.int .u8) (.pair .bool (.pair .bool (.int .u8))))))) 1)))), (4, .int .u8 j_29), (1, .pointer (some (⟨b_1, 0, .none⟩ : Addr)))]) S tys tys_ok 1 (by kernel_rfl) ?_; clear S; intro a S
        refine wpList_nil ?_
        exact RPost.mk_ S rfl S0 rfl (Below.refl _ _)
      refine RunAll.cons (isI .u8 x0.2.1) [(eqv (.pointer (some ((⟨b_1, 0, .none⟩ : Addr).add (coff (.pair (.int .u16) (.pair (.int .u8) (.pair (.int .u8) (.pair (.int .u8) (.pair .bool (.pair .bool (.int .u8))))))) 1)))), 47)] rfl rfl ?_ ?_
      · intro W_ hW
        have S1 := S
        intro v_84 hF_83; obtain rfl : v_84 = .pointer (some ((⟨b_1, 0, .none⟩ : Addr).add (coff (.pair (.int .u16) (.pair (.int .u8) (.pair (.int .u8) (.pair (.int .u8) (.pair .bool (.pair .bool (.int .u8))))))) 1))) := hF_83
        replace S1 := S1.put (by decide : 47 < 58) (.pointer (some ((⟨b_1, 0, .none⟩ : Addr).add (coff (.pair (.int .u16) (.pair (.int .u8) (.pair (.int .u8) (.pair (.int .u8) (.pair .bool (.pair .bool (.int .u8))))))) 1))))
        refine fill_nil S1 ?_; clear S1; intro a_ S1
        replace B_2 := B_2.step hW
        have S0 := S.defers; replace S := S1; clear S1
        refine w_go S rfl (op_load (t := (.int .u8)) (x := x0.2.1) S rfl ty5 rfl rfl rfl (RepAt.add 1 (RepAt.st B_2.at_)) ?_)
        clear S; intro a v_85 R_86 S
        obtain ⟨rfl, GR_86⟩ := RepV.int R_86
        refine wpList_nil ?_
        exact RPost.mk_ S rfl S0 ⟨rfl, GR_86⟩ (Below.refl _ _)
      refine RunAll.cons (eqv (.pointer (some ((⟨b_1, 0, .none⟩ : Addr).add (coff (.pair (.int .u16) (.pair (.int .u8) (.pair (.int .u8) (.pair (.int .u8) (.pair .bool (.pair .bool (.int .u8))))))) 2))))) [] rfl rfl ?_ ?_
      · intro W_ hW
        have S1 := S
        refine fill_nil S1 ?_; clear S1; intro a_ S1
        replace B_2 := B_2.step hW
        have S0 := S.defers; replace S := S1; clear S1
        refine wl_pure (l' := [(49, .pointer (some ((⟨b_1, 0, .none⟩ : Addr).add (coff (.pair (.int .u16) (.pair (.int .u8) (.pair (.int .u8) (.pair (.int .u8) (.pair .bool (.pair .bool (.int .u8))))))) 2)))), (4, .int .u8 j_29), (1, .pointer (some (⟨b_1, 0, .none⟩ : Addr)))]) S tys tys_ok 1 (by kernel_rfl) ?_; clear S; intro a S
        refine wpList_nil ?_
        exact RPost.mk_ S rfl S0 rfl (Below.refl _ _)
      refine RunAll.cons (isI .u8 x0.2.2.1) [(eqv (.pointer (some ((⟨b_1, 0, .none⟩ : Addr).add (coff (.pair (.int .u16) (.pair (.int .u8) (.pair (.int .u8) (.pair (.int .u8) (.pair .bool (.pair .bool (.int .u8))))))) 2)))), 49)] rfl rfl ?_ ?_
      · intro W_ hW
        have S1 := S
        intro v_88 hF_87; obtain rfl : v_88 = .pointer (some ((⟨b_1, 0, .none⟩ : Addr).add (coff (.pair (.int .u16) (.pair (.int .u8) (.pair (.int .u8) (.pair (.int .u8) (.pair .bool (.pair .bool (.int .u8))))))) 2))) := hF_87
        replace S1 := S1.put (by decide : 49 < 58) (.pointer (some ((⟨b_1, 0, .none⟩ : Addr).add (coff (.pair (.int .u16) (.pair (.int .u8) (.pair (.int .u8) (.pair (.int .u8) (.pair .bool (.pair .bool (.int .u8))))))) 2))))
        refine fill_nil S1 ?_; clear S1; intro a_ S1
        replace B_2 := B_2.step hW
        have S0 := S.defers; replace S := S1; clear S1
        refine w_go S rfl (op_load (t := (.int .u8)) (x := x0.2.2.1) S rfl ty5 rfl rfl rfl (RepAt.add 2 (RepAt.st B_2.at_)) ?_)
        clear S; intro a v_89 R_90 S
        obtain ⟨rfl, GR_90⟩ := RepV.int R_90
        refine wpList_nil ?_
        exact RPost.mk_ S rfl S0 ⟨rfl, GR_90⟩ (Below.refl _ _)
      refine RunAll.cons (eqv (.pointer (some ((⟨b_1, 0, .none⟩ : Addr).add (coff (.pair (.int .u16) (.pair (.int .u8) (.pair (.int .u8) (.pair (.int .u8) (.pair .bool (.pair .bool (.int .u8))))))) 3))))) [] rfl rfl ?_ ?_
      · intro W_ hW
        have S1 := S
        refine fill_nil S1 ?_; clear S1; intro a_ S1
        replace B_2 := B_2.step hW
        have S0 := S.defers; replace S := S1; clear S1
        refine wl_pure (l' := [(51, .pointer (some ((⟨b_1, 0, .none⟩ : Addr).add (coff (.pair (.int .u16) (.pair (.int .u8) (.pair (.int .u8) (.pair (.int .u8) (.pair .bool (.pair .bool (.int .u8))))))) 3)))), (4, .int .u8 j_29), (1, .pointer (some (⟨b_1, 0, .none⟩ : Addr)))]) S tys tys_ok 1 (by kernel_rfl) ?_; clear S; intro a S
        refine wpList_nil ?_
        exact RPost.mk_ S rfl S0 rfl (Below.refl _ _)
      refine RunAll.cons (isI .u8 x0.2.2.2.1) [(eqv (.pointer (some ((⟨b_1, 0, .none⟩ : Addr).add (coff (.pair (.int .u16) (.pair (.int .u8) (.pair (.int .u8) (.pair (.int .u8) (.pair .bool (.pair .bool (.int .u8))))))) 3)))), 51)] rfl rfl ?_ ?_
      · intro W_ hW
        have S1 := S
        intro v_92 hF_91; obtain rfl : v_92 = .pointer (some ((⟨b_1, 0, .none⟩ : Addr).add (coff (.pair (.int .u16) (.pair (.int .u8) (.pair (.int .u8) (.pair (.int .u8) (.pair .bool (.pair .bool (.int .u8))))))) 3))) := hF_91
        replace S1 := S1.put (by decide : 51 < 58) (.pointer (some ((⟨b_1, 0, .none⟩ : Addr).add (coff (.pair (.int .u16) (.pair (.int .u8) (.pair (.int .u8) (.pair (.int .u8) (.pair .bool (.pair .bool (.int .u8))))))) 3))))
        refine fill_nil S1 ?_; clear S1; intro a_ S1
        replace B_2 := B_2.step hW
        have S0 := S.defers; replace S := S1; clear S1
        refine w_go S rfl (op_load (t := (.int .u8)) (x := x0.2.2.2.1) S rfl ty5 rfl rfl rfl (RepAt.add 3 (RepAt.st B_2.at_)) ?_)
        clear S; intro a v_93 R_94 S
        obtain ⟨rfl, GR_94⟩ := RepV.int R_94
        refine wpList_nil ?_
        exact RPost.mk_ S rfl S0 ⟨rfl, GR_94⟩ (Below.refl _ _)
      refine RunAll.cons (isI .u8 j_29) [] rfl rfl ?_ ?_
      · intro W_ hW
        have S1 := S
        refine fill_nil S1 ?_; clear S1; intro a_ S1
        have S0 := S.defers; replace S := S1; clear S1
        refine wl_pure (l' := [(53, .int .u8 j_29), (4, .int .u8 j_29), (1, .pointer (some (⟨b_1, 0, .none⟩ : Addr)))]) S tys tys_ok 1 (by kernel_rfl) ?_; clear S; intro a S
        refine wpList_nil ?_
        exact RPost.mk_ S rfl S0 ⟨rfl, G_30⟩ (Below.refl _ _)
      refine RunAll.cons (eqv (.pointer (some ((⟨b_1, 0, .none⟩ : Addr).add (coff (.pair (.int .u16) (.pair (.int .u8) (.pair (.int .u8) (.pair (.int .u8) (.pair .bool (.pair .bool (.int .u8))))))) 6))))) [] rfl rfl ?_ ?_
      · intro W_ hW
        have S1 := S
        refine fill_nil S1 ?_; clear S1; intro a_ S1
        replace B_2 := B_2.step hW
        have S0 := S.defers; replace S := S1; clear S1
        refine wl_pure (l' := [(54, .pointer (some ((⟨b_1, 0, .none⟩ : Addr).add (coff (.pair (.int .u16) (.pair (.int .u8) (.pair (.int .u8) (.pair (.int .u8) (.pair .bool (.pair .bool (.int .u8))))))) 6)))), (4, .int .u8 j_29), (1, .pointer (some (⟨b_1, 0, .none⟩ : Addr)))]) S tys tys_ok 1 (by kernel_rfl) ?_; clear S; intro a S
        refine wpList_nil ?_
        exact RPost.mk_ S rfl S0 rfl (Below.refl _ _)
      refine RunAll.cons (isI .u8 x0.2.2.2.2.2.2) [(eqv (.pointer (some ((⟨b_1, 0, .none⟩ : Addr).add (coff (.pair (.int .u16) (.pair (.int .u8) (.pair (.int .u8) (.pair (.int .u8) (.pair .bool (.pair .bool (.int .u8))))))) 6)))), 54)] rfl rfl ?_ ?_
      · intro W_ hW
        have S1 := S
        intro v_96 hF_95; obtain rfl : v_96 = .pointer (some ((⟨b_1, 0, .none⟩ : Addr).add (coff (.pair (.int .u16) (.pair (.int .u8) (.pair (.int .u8) (.pair (.int .u8) (.pair .bool (.pair .bool (.int .u8))))))) 6))) := hF_95
        replace S1 := S1.put (by decide : 54 < 58) (.pointer (some ((⟨b_1, 0, .none⟩ : Addr).add (coff (.pair (.int .u16) (.pair (.int .u8) (.pair (.int .u8) (.pair (.int .u8) (.pair .bool (.pair .bool (.int .u8))))))) 6))))
        refine fill_nil S1 ?_; clear S1; intro a_ S1
        replace B_2 := B_2.step hW
        have S0 := S.defers; replace S := S1; clear S1
        refine w_go S rfl (op_load (t := (.int .u8)) (x := x0.2.2.2.2.2.2) S rfl ty5 rfl rfl rfl (RepAt.add 6 (RepAt.st B_2.at_)) ?_)
        clear S; intro a v_97 R_98 S
        obtain ⟨rfl, GR_98⟩ := RepV.int R_98
        refine wpList_nil ?_
        exact RPost.mk_ S rfl S0 ⟨rfl, GR_98⟩ (Below.refl _ _)
      refine RunAll.cons (isRep (.sl (.int .u8)) (Kx K w.heap.size [some b_1]) (⟨[t_34, t_41, x0.2.1, x0.2.2.1, x0.2.2.2.1, j_29, x0.2.2.2.2.2.2], some 7⟩ : Sl (Int))) [(isI .u8 t_34, 43), (isI .u8 t_41, 46), (isI .u8 x0.2.1, 48), (isI .u8 x0.2.2.1, 50), (isI .u8 x0.2.2.2.1, 52), (isI .u8 j_29, 53), (isI .u8 x0.2.2.2.2.2.2, 55)] rfl rfl ?_ ?_
      · intro W_ hW
        have S1 := S
        rintro _ ⟨rfl, hF_99⟩
        replace S1 := S1.put (by decide : 43 < 58) (.int .u8 t_34)
        rintro _ ⟨rfl, hF_101⟩
        replace S1 := S1.put (by decide : 46 < 58) (.int .u8 t_41)
        rintro _ ⟨rfl, hF_103⟩
        replace S1 := S1.put (by decide : 48 < 58) (.int .u8 x0.2.1)
        rintro _ ⟨rfl, hF_105⟩
        replace S1 := S1.put (by decide : 50 < 58) (.int .u8 x0.2.2.1)
        rintro _ ⟨rfl, hF_107⟩
        replace S1 := S1.put (by decide : 52 < 58) (.int .u8 x0.2.2.2.1)
        rintro _ ⟨rfl, hF_109⟩
        replace S1 := S1.put (by decide : 53 < 58) (.int .u8 j_29)
        rintro _ ⟨rfl, hF_111⟩
        replace S1 := S1.put (by decide : 55 < 58) (.int .u8 x0.2.2.2.2.2.2)
        refine fill_nil S1 ?_; clear S1; intro a_ S1
        replace W := W.step hW
        have S0 := S.defers; replace S := S1; clear S1
        refine w_go S rfl (op_buildSlice (K := K) (e := (.int .u8)) (vs := [.int .u8 t_34, .int .u8 t_41, .int .u8 x0.2.1, .int .u8 x0.2.2.1, .int .u8 x0.2.2.2.1, .int .u8 j_29, .int .u8 x0.2.2.2.2.2.2]) (xs := [t_34, t_41, x0.2.1, x0.2.2.1, x0.2.2.2.1, j_29, x0.2.2.2.2.2.2]) S W rfl ty23 rfl rfl (by kernel_rfl) rfl rfl rfl rfl rfl ⟨(RepV.mkInt hF_99), (RepV.mkInt hF_101), (RepV.mkInt hF_103), (RepV.mkInt hF_105), (RepV.mkInt hF_107), (RepV.mkInt hF_109), (RepV.mkInt hF_111), trivial⟩ ?_)
        clear S; intro a w_116 v_113 hb_115 R_114 S
        refine wpList_nil ?_
        exact RPost.mk_ S rfl S0 R_114 (hb_115)
      refine RunAll.cons (isRep (.sl (.int .u8)) (Kx K w.heap.size [some b_1]) t_58) [(isRep (.sl (.int .u8)) (Kx K w.heap.size [some b_1]) (⟨[t_34, t_41, x0.2.1, x0.2.2.1, x0.2.2.2.1, j_29, x0.2.2.2.2.2.2], some 7⟩ : Sl (Int)), 56)] rfl rfl ?_ ?_
      · intro W_ hW
        have S1 := S
        intro v_118 hF_117; replace hF_117 : RepV _ _ _ _ _ := hF_117
        replace S1 := S1.put (by decide : 56 < 58) (v_118)
        refine fill_nil S1 ?_; clear S1; intro a_ S1
        replace W := W.step hW
        have S0 := S.defers; replace S := S1; clear S1
        refine w_go S rfl (op_call (vs := [.int .u8 2, v_118]) S rfl cb41 rfl rfl rfl (c41 (Kx K w.heap.size [some b_1]) n W_ 2 (by decide) (⟨[t_34, t_41, x0.2.1, x0.2.2.1, x0.2.2.2.1, j_29, x0.2.2.2.2.2.2], some 7⟩ : Sl (Int)) _ hF_117 et_58) ?_)
        rintro _ w_122 ⟨v_119, rfl, R_120, hb_121⟩; refine ⟨_, rfl, ?_⟩
        replace R_120 := RepV.back R_120 W
        clear S; intro a S
        refine wpList_nil ?_
        exact RPost.mk_ S rfl S0 R_120 (hb_121)
      refine RunAll.cons (isRep (.sl (.int .u8)) (Kx K w.heap.size [some b_1]) t_58) [(isRep (.sl (.int .u8)) (Kx K w.heap.size [some b_1]) t_58, 57)] rfl rfl ?_ ?_
      · intro W_ hW
        have S1 := S
        intro v_124 hF_123; replace hF_123 : RepV _ _ _ _ _ := hF_123
        replace S1 := S1.put (by decide : 57 < 58) (v_124)
        refine fill_nil S1 ?_; clear S1; intro a_ S1
        have S0 := S.defers; replace S := S1; clear S1
        refine wl_pure (l' := [(2, v_124), (57, v_124), (4, .int .u8 j_29), (1, .pointer (some (⟨b_1, 0, .none⟩ : Addr)))]) S tys tys_ok 1 (by kernel_rfl) ?_; clear S; intro a S
        refine wpList_nil ?_
        exact RPost.mk_ S rfl S0 hF_123 (Below.refl _ _)
      refine RunAll.cons (eqv (.int .i64 0)) [] rfl rfl ?_ ?_
      · intro W_ hW
        have S1 := S
        refine fill_nil S1 ?_; clear S1; intro a_ S1
        have S0 := S.defers; replace S := S1; clear S1
        refine wl_pure (l' := [(3, .int .i64 0), (4, .int .u8 j_29), (1, .pointer (some (⟨b_1, 0, .none⟩ : Addr)))]) S tys tys_ok 1 (by kernel_rfl) ?_; clear S; intro a S
        refine wpList_nil ?_
        exact RPost.mk_ S rfl S0 rfl (Below.refl _ _)
      exact trivial
    intro w_125 hb_126
    refine EndE.some_ rfl ?_
    intro v_128 hF_127; obtain rfl : v_128 = .pointer (some ((⟨b_1, 0, .none⟩ : Addr).add (coff (.pair (.int .u16) (.pair (.int .u8) (.pair (.int .u8) (.pair (.int .u8) (.pair .bool (.pair .bool (.int .u8))))))) 0))) := hF_127
    replace S := S.put (by decide : 41 < 58) (.pointer (some ((⟨b_1, 0, .none⟩ : Addr).add (coff (.pair (.int .u16) (.pair (.int .u8) (.pair (.int .u8) (.pair (.int .u8) (.pair .bool (.pair .bool (.int .u8))))))) 0))))
    refine EndE.some_ rfl ?_
    rintro _ ⟨rfl, hF_129⟩
    replace S := S.put (by decide : 42 < 58) (.int .u16 x0.1)
    refine EndE.some_ rfl ?_
    rintro _ ⟨rfl, hF_131⟩
    replace S := S.put (by decide : 43 < 58) (.int .u8 t_34)
    refine EndE.some_ rfl ?_
    intro v_134 hF_133; obtain rfl : v_134 = .pointer (some ((⟨b_1, 0, .none⟩ : Addr).add (coff (.pair (.int .u16) (.pair (.int .u8) (.pair (.int .u8) (.pair (.int .u8) (.pair .bool (.pair .bool (.int .u8))))))) 0))) := hF_133
    replace S := S.put (by decide : 44 < 58) (.pointer (some ((⟨b_1, 0, .none⟩ : Addr).add (coff (.pair (.int .u16) (.pair (.int .u8) (.pair (.int .u8) (.pair (.int .u8) (.pair .bool (.pair .bool (.int .u8))))))) 0))))
    refine EndE.some_ rfl ?_
    rintro _ ⟨rfl, hF_135⟩
    replace S := S.put (by decide : 45 < 58) (.int .u16 x0.1)
    refine EndE.some_ rfl ?_
    rintro _ ⟨rfl, hF_137⟩
    replace S := S.put (by decide : 46 < 58) (.int .u8 t_41)
    refine EndE.some_ rfl ?_
    intro v_140 hF_139; obtain rfl : v_140 = .pointer (some ((⟨b_1, 0, .none⟩ : Addr).add (coff (.pair (.int .u16) (.pair (.int .u8) (.pair (.int .u8) (.pair (.int .u8) (.pair .bool (.pair .bool (.int .u8))))))) 1))) := hF_139
    replace S := S.put (by decide : 47 < 58) (.pointer (some ((⟨b_1, 0, .none⟩ : Addr).add (coff (.pair (.int .u16) (.pair (.int .u8) (.pair (.int .u8) (.pair (.int .u8) (.pair .bool (.pair .bool (.int .u8))))))) 1))))
    refine EndE.some_ rfl ?_
    rintro _ ⟨rfl, hF_141⟩
    replace S := S.put (by decide : 48 < 58) (.int .u8 x0.2.1)
    refine EndE.some_ rfl ?_
    intro v_144 hF_143; obtain rfl : v_144 = .pointer (some ((⟨b_1, 0, .none⟩ : Addr).add (coff (.pair (.int .u16) (.pair (.int .u8) (.pair (.int .u8) (.pair (.int .u8) (.pair .bool (.pair .bool (.int .u8))))))) 2))) := hF_143
    replace S := S.put (by decide : 49 < 58) (.pointer (some ((⟨b_1, 0, .none⟩ : Addr).add (coff (.pair (.int .u16) (.pair (.int .u8) (.pair (.int .u8) (.pair (.int .u8) (.pair .bool (.pair .bool (.int .u8))))))) 2))))
    refine EndE.some_ rfl ?_
    rintro _ ⟨rfl, hF_145⟩
    replace S := S.put (by decide : 50 < 58) (.int .u8 x0.2.2.1)
    refine EndE.some_ rfl ?_
    intro v_148 hF_147; obtain rfl : v_148 = .pointer (some ((⟨b_1, 0, .none⟩ : Addr).add (coff (.pair (.int .u16) (.pair (.int .u8) (.pair (.int .u8) (.pair (.int .u8) (.pair .bool (.pair .bool (.int .u8))))))) 3))) := hF_147
    replace S := S.put (by decide : 51 < 58) (.pointer (some ((⟨b_1, 0, .none⟩ : Addr).add (coff (.pair (.int .u16) (.pair (.int .u8) (.pair (.int .u8) (.pair (.int .u8) (.pair .bool (.pair .bool (.int .u8))))))) 3))))
    refine EndE.some_ rfl ?_
    rintro _ ⟨rfl, hF_149⟩
    replace S := S.put (by decide : 52 < 58) (.int .u8 x0.2.2.2.1)
    refine EndE.some_ rfl ?_
    rintro _ ⟨rfl, hF_151⟩
    replace S := S.put (by decide : 53 < 58) (.int .u8 j_29)
    refine EndE.some_ rfl ?_
    intro v_154 hF_153; obtain rfl : v_154 = .pointer (some ((⟨b_1, 0, .none⟩ : Addr).add (coff (.pair (.int .u16) (.pair (.int .u8) (.pair (.int .u8) (.pair (.int .u8) (.pair .bool (.pair .bool (.int .u8))))))) 6))) := hF_153
    replace S := S.put (by decide : 54 < 58) (.pointer (some ((⟨b_1, 0, .none⟩ : Addr).add (coff (.pair (.int .u16) (.pair (.int .u8) (.pair (.int .u8) (.pair (.int .u8) (.pair .bool (.pair .bool (.int .u8))))))) 6))))
    refine EndE.some_ rfl ?_
    rintro _ ⟨rfl, hF_155⟩
    replace S := S.put (by decide : 55 < 58) (.int .u8 x0.2.2.2.2.2.2)
    refine EndE.some_ rfl ?_
    intro v_158 hF_157; replace hF_157 : RepV _ _ _ _ _ := hF_157
    replace S := S.put (by decide : 56 < 58) (v_158)
    refine EndE.some_ rfl ?_
    intro v_160 hF_159; replace hF_159 : RepV _ _ _ _ _ := hF_159
    replace S := S.put (by decide : 57 < 58) (v_160)
    refine EndE.some_ rfl ?_
    intro v_162 hF_161; replace hF_161 : RepV _ _ _ _ _ := hF_161
    replace S := S.put (by decide : 2 < 58) (v_162)
    refine EndE.some_ rfl ?_
    intro v_164 hF_163; obtain rfl : v_164 = .int .i64 0 := hF_163
    replace S := S.put (by decide : 3 < 58) (.int .i64 0)
    refine endE_nil S ?_; clear S; intro a S
    replace B_2 := B_2.step hb_126
    replace W := W.step hb_126
    refine then_n ?_
    replace S := S.sub (l' := [(3, .int .i64 0), (2, v_162)]) (by exact ⟨rfl, rfl, trivial⟩)
    refine wp_ret ?_
    obtain rfl := Option.some.inj h
    exact b_ret2 S rfl rfl rfl ⟨_, _, rfl, hF_161.out, (RepV.mkInt (by decide)), W.below⟩
theorem cb18 : callB Try.prog 18 = true := by kernel_rfl
def p20 (n : Nat) (x0 : Int × Int × Int × Int × Bool × Bool × Int) : Option ((List Int)) :=
  (if (decide (x0.1 < 9)) = false then some (decide (x0.1 > 4096)) else some true).bind fun q_7 =>
  (if q_7 = false then some (decide (x0.2.1 < 1)) else some true).bind fun q_10 =>
  (if q_10 = false then some (decide (x0.2.1 > 16)) else some true).bind fun q_13 =>
  (if q_13 = false then some (decide (x0.2.2.1 < 1)) else some true).bind fun q_16 =>
  (if q_16 = false then some (decide (x0.2.2.2.2.2.2 > 250)) else some true).bind fun q_19 =>
  if q_19 then (some ([])) else (if x0.2.2.2.2.1 then (some (IntKind.wrap .u8 (128 + 64))) else some 128).bind fun (j_24 : (Int)) => (if x0.2.2.2.2.2.1 then (some (IntKind.wrap .u8 (j_24 + 32))) else some j_24).bind fun (j_29 : (Int)) => (p38 n x0.1).bind fun t_34 => (catS ([9, 2]) t_34).bind fun s_39 => (catS s_39 ((⟨[x0.2.1, x0.2.2.1, x0.2.2.2.1, j_29, x0.2.2.2.2.2.2], some 5⟩ : Sl (Int)).xs)).bind fun s_52 => some s_52
set_option maxHeartbeats 4000000 in
set_option maxRecDepth 100000 in
/-- plugboard/plugboardlaw13.configuration -/
theorem c20 (K : Nat → Prop) (n : Nat) (w : World) (x0 : Int × Int × Int × Int × Bool × Bool × Int) (v0 : Value) (R0 : RepV (.st (.pair (.int .u16) (.pair (.int .u8) (.pair (.int .u8) (.pair (.int .u8) (.pair .bool (.pair .bool (.int .u8)))))))) w K v0 x0) {r : (List Int)} (h : p20 n x0 = some r) :
    Calls Try.prog 20 #[v0] w (Ret1 .str w (Kx K w.heap.size []) r) := by
  refine enter (args := [v0]) Try.func20 rfl 56 rfl rfl fun a S => ?_
  have W := Wd.start w
  replace R0 := R0.arg
  unfold p20 at h
  replace S : St 56 a [(0, v0)] := S
  refine wp_seq ?_
  refine wp_region_lit ?_
  refine w_go S rfl (op_box S rfl rfl rfl rfl rfl R0 ?_)
  clear S; intro a w_3 b_1 hb_4 B_2 S
  replace R0 := R0.box hb_4
  replace W := W.box hb_4
  refine wl_pure (l' := [(2, .string (strOfNums ([]))), (1, .pointer (some (⟨b_1, 0, .none⟩ : Addr))), (0, v0)]) S tys tys_ok 1 (by kernel_rfl) ?_
  clear S; intro a S
  refine wpList_nil ?_
  refine then_n ?_
  replace S := S.sub (l' := [(1, .pointer (some (⟨b_1, 0, .none⟩ : Addr)))]) (by exact ⟨rfl, trivial⟩)
  refine wp_seq ?_
  refine wp_seq ?_
  refine wp_region_lit ?_
  refine wl_pure (l' := [(4, .pointer (some ((⟨b_1, 0, .none⟩ : Addr).add (coff (.pair (.int .u16) (.pair (.int .u8) (.pair (.int .u8) (.pair (.int .u8) (.pair .bool (.pair .bool (.int .u8))))))) 0)))), (1, .pointer (some (⟨b_1, 0, .none⟩ : Addr)))]) S tys tys_ok 1 (by kernel_rfl) ?_
  clear S; intro a S
  refine w_go S rfl (op_load (t := (.int .u16)) (x := x0.1) S rfl ty33 rfl rfl rfl (RepAt.add 0 (RepAt.st B_2.at_)) ?_)
  clear S; intro a v_5 R_6 S
  obtain ⟨rfl, GR_6⟩ := RepV.int R_6
  refine wl_pure (l' := [(7, .bool (decide (x0.1 < 9))), (6, .bool (decide (x0.1 < 9))), (5, .int .u16 x0.1), (4, .pointer (some ((⟨b_1, 0, .none⟩ : Addr).add (coff (.pair (.int .u16) (.pair (.int .u8) (.pair (.int .u8) (.pair (.int .u8) (.pair .bool (.pair .bool (.int .u8))))))) 0)))), (1, .pointer (some (⟨b_1, 0, .none⟩ : Addr)))]) S tys tys_ok 2 (by kernel_rfl) ?_
  clear S; intro a S
  obtain ⟨q_7, eq_7, h⟩ := bindS h
  refine seg 4 (fun a_ w_ => w_3 = w_ ∧ St 56 a_ [(11, .bool q_7), (1, .pointer (some (⟨b_1, 0, .none⟩ : Addr)))]) ?_ ?_
  · by_cases hc : (decide (x0.1 < 9)) = false
    · rw [if_pos hc] at eq_7; rw [hc] at S
      refine wl_pure (l' := [(8, .pointer (some ((⟨b_1, 0, .none⟩ : Addr).add (coff (.pair (.int .u16) (.pair (.int .u8) (.pair (.int .u8) (.pair (.int .u8) (.pair .bool (.pair .bool (.int .u8))))))) 0)))), (7, .bool false), (6, .bool false), (5, .int .u16 x0.1), (4, .pointer (some ((⟨b_1, 0, .none⟩ : Addr).add (coff (.pair (.int .u16) (.pair (.int .u8) (.pair (.int .u8) (.pair (.int .u8) (.pair .bool (.pair .bool (.int .u8))))))) 0)))), (1, .pointer (some (⟨b_1, 0, .none⟩ : Addr)))]) S tys tys_ok 1 (by kernel_rfl) ?_
      clear S; intro a S
      refine w_go S rfl (op_load (t := (.int .u16)) (x := x0.1) S rfl ty33 rfl rfl rfl (RepAt.add 0 (RepAt.st B_2.at_)) ?_)
      clear S; intro a v_8 R_9 S
      obtain ⟨rfl, GR_9⟩ := RepV.int R_9
      refine wl_pure (l' := [(11, .bool (decide (x0.1 > 4096))), (10, .bool (decide (x0.1 > 4096))), (9, .int .u16 x0.1), (8, .pointer (some ((⟨b_1, 0, .none⟩ : Addr).add (coff (.pair (.int .u16) (.pair (.int .u8) (.pair (.int .u8) (.pair (.int .u8) (.pair .bool (.pair .bool (.int .u8))))))) 0)))), (7, .bool false), (6, .bool false), (5, .int .u16 x0.1), (4, .pointer (some ((⟨b_1, 0, .none⟩ : Addr).add (coff (.pair (.int .u16) (.pair (.int .u8) (.pair (.int .u8) (.pair (.int .u8) (.pair .bool (.pair .bool (.int .u8))))))) 0)))), (1, .pointer (some (⟨b_1, 0, .none⟩ : Addr)))]) S tys tys_ok 2 (by kernel_rfl) ?_
      clear S; intro a S
      obtain rfl := Option.some.inj eq_7
      exact ⟨rfl, S.sub (by exact ⟨rfl, rfl, trivial⟩)⟩
    · rw [if_neg hc] at eq_7; rw [show (decide (x0.1 < 9)) = true from (by simpa using hc)] at S
      refine wl_pure (l' := [(11, .bool true), (10, undef), (9, undef), (8, undef), (7, .bool true), (6, .bool true), (5, .int .u16 x0.1), (4, .pointer (some ((⟨b_1, 0, .none⟩ : Addr).add (coff (.pair (.int .u16) (.pair (.int .u8) (.pair (.int .u8) (.pair (.int .u8) (.pair .bool (.pair .bool (.int .u8))))))) 0)))), (1, .pointer (some (⟨b_1, 0, .none⟩ : Addr)))]) S tys tys_ok 4 (by kernel_rfl) ?_
      clear S; intro a S
      obtain rfl := Option.some.inj eq_7
      exact ⟨rfl, S.sub (by exact ⟨rfl, rfl, trivial⟩)⟩
  clear S eq_7; rintro a _ ⟨rfl, S⟩
  refine wl_pure (l' := [(12, .bool q_7), (11, .bool q_7), (1, .pointer (some (⟨b_1, 0, .none⟩ : Addr)))]) S tys tys_ok 1 (by kernel_rfl) ?_
  clear S; intro a S
  obtain ⟨q_10, eq_10, h⟩ := bindS h
  refine seg 4 (fun a_ w_ => w_3 = w_ ∧ St 56 a_ [(16, .bool q_10), (1, .pointer (some (⟨b_1, 0, .none⟩ : Addr)))]) ?_ ?_
  · by_cases hc : q_7 = false
    · rw [if_pos hc] at eq_10; rw [hc] at S
      refine wl_pure (l' := [(13, .pointer (some ((⟨b_1, 0, .none⟩ : Addr).add (coff (.pair (.int .u16) (.pair (.int .u8) (.pair (.int .u8) (.pair (.int .u8) (.pair .bool (.pair .bool (.int .u8))))))) 1)))), (12, .bool false), (11, .bool false), (1, .pointer (some (⟨b_1, 0, .none⟩ : Addr)))]) S tys tys_ok 1 (by kernel_rfl) ?_
      clear S; intro a S
      refine w_go S rfl (op_load (t := (.int .u8)) (x := x0.2.1) S rfl ty5 rfl rfl rfl (RepAt.add 1 (RepAt.st B_2.at_)) ?_)
      clear S; intro a v_11 R_12 S
      obtain ⟨rfl, GR_12⟩ := RepV.int R_12
      refine wl_pure (l' := [(16, .bool (decide (x0.2.1 < 1))), (15, .bool (decide (x0.2.1 < 1))), (14, .int .u8 x0.2.1), (13, .pointer (some ((⟨b_1, 0, .none⟩ : Addr).add (coff (.pair (.int .u16) (.pair (.int .u8) (.pair (.int .u8) (.pair (.int .u8) (.pair .bool (.pair .bool (.int .u8))))))) 1)))), (12, .bool false), (11, .bool false), (1, .pointer (some (⟨b_1, 0, .none⟩ : Addr)))]) S tys tys_ok 2 (by kernel_rfl) ?_
      clear S; intro a S
      obtain rfl := Option.some.inj eq_10
      exact ⟨rfl, S.sub (by exact ⟨rfl, rfl, trivial⟩)⟩
    · rw [if_neg hc] at eq_10; rw [show q_7 = true from (by simpa using hc)] at S
      refine wl_pure (l' := [(16, .bool true), (15, undef), (14, undef), (13, undef), (12, .bool true), (11, .bool true), (1, .pointer (some (⟨b_1, 0, .none⟩ : Addr)))]) S tys tys_ok 4 (by kernel_rfl) ?_
      clear S; intro a S
      obtain rfl := Option.some.inj eq_10
      exact ⟨rfl, S.sub (by exact ⟨rfl, rfl, trivial⟩)⟩
  clear S eq_10; rintro a _ ⟨rfl, S⟩
  refine wl_pure (l' := [(17, .bool q_10), (16, .bool q_10), (1, .pointer (some (⟨b_1, 0, .none⟩ : Addr)))]) S tys tys_ok 1 (by kernel_rfl) ?_
  clear S; intro a S
  obtain ⟨q_13, eq_13, h⟩ := bindS h
  refine seg 4 (fun a_ w_ => w_3 = w_ ∧ St 56 a_ [(21, .bool q_13), (1, .pointer (some (⟨b_1, 0, .none⟩ : Addr)))]) ?_ ?_
  · by_cases hc : q_10 = false
    · rw [if_pos hc] at eq_13; rw [hc] at S
      refine wl_pure (l' := [(18, .pointer (some ((⟨b_1, 0, .none⟩ : Addr).add (coff (.pair (.int .u16) (.pair (.int .u8) (.pair (.int .u8) (.pair (.int .u8) (.pair .bool (.pair .bool (.int .u8))))))) 1)))), (17, .bool false), (16, .bool false), (1, .pointer (some (⟨b_1, 0, .none⟩ : Addr)))]) S tys tys_ok 1 (by kernel_rfl) ?_
      clear S; intro a S
      refine w_go S rfl (op_load (t := (.int .u8)) (x := x0.2.1) S rfl ty5 rfl rfl rfl (RepAt.add 1 (RepAt.st B_2.at_)) ?_)
      clear S; intro a v_14 R_15 S
      obtain ⟨rfl, GR_15⟩ := RepV.int R_15
      refine wl_pure (l' := [(21, .bool (decide (x0.2.1 > 16))), (20, .bool (decide (x0.2.1 > 16))), (19, .int .u8 x0.2.1), (18, .pointer (some ((⟨b_1, 0, .none⟩ : Addr).add (coff (.pair (.int .u16) (.pair (.int .u8) (.pair (.int .u8) (.pair (.int .u8) (.pair .bool (.pair .bool (.int .u8))))))) 1)))), (17, .bool false), (16, .bool false), (1, .pointer (some (⟨b_1, 0, .none⟩ : Addr)))]) S tys tys_ok 2 (by kernel_rfl) ?_
      clear S; intro a S
      obtain rfl := Option.some.inj eq_13
      exact ⟨rfl, S.sub (by exact ⟨rfl, rfl, trivial⟩)⟩
    · rw [if_neg hc] at eq_13; rw [show q_10 = true from (by simpa using hc)] at S
      refine wl_pure (l' := [(21, .bool true), (20, undef), (19, undef), (18, undef), (17, .bool true), (16, .bool true), (1, .pointer (some (⟨b_1, 0, .none⟩ : Addr)))]) S tys tys_ok 4 (by kernel_rfl) ?_
      clear S; intro a S
      obtain rfl := Option.some.inj eq_13
      exact ⟨rfl, S.sub (by exact ⟨rfl, rfl, trivial⟩)⟩
  clear S eq_13; rintro a _ ⟨rfl, S⟩
  refine wl_pure (l' := [(22, .bool q_13), (21, .bool q_13), (1, .pointer (some (⟨b_1, 0, .none⟩ : Addr)))]) S tys tys_ok 1 (by kernel_rfl) ?_
  clear S; intro a S
  obtain ⟨q_16, eq_16, h⟩ := bindS h
  refine seg 4 (fun a_ w_ => w_3 = w_ ∧ St 56 a_ [(26, .bool q_16), (1, .pointer (some (⟨b_1, 0, .none⟩ : Addr)))]) ?_ ?_
  · by_cases hc : q_13 = false
    · rw [if_pos hc] at eq_16; rw [hc] at S
      refine wl_pure (l' := [(23, .pointer (some ((⟨b_1, 0, .none⟩ : Addr).add (coff (.pair (.int .u16) (.pair (.int .u8) (.pair (.int .u8) (.pair (.int .u8) (.pair .bool (.pair .bool (.int .u8))))))) 2)))), (22, .bool false), (21, .bool false), (1, .pointer (some (⟨b_1, 0, .none⟩ : Addr)))]) S tys tys_ok 1 (by kernel_rfl) ?_
      clear S; intro a S
      refine w_go S rfl (op_load (t := (.int .u8)) (x := x0.2.2.1) S rfl ty5 rfl rfl rfl (RepAt.add 2 (RepAt.st B_2.at_)) ?_)
      clear S; intro a v_17 R_18 S
      obtain ⟨rfl, GR_18⟩ := RepV.int R_18
      refine wl_pure (l' := [(26, .bool (decide (x0.2.2.1 < 1))), (25, .bool (decide (x0.2.2.1 < 1))), (24, .int .u8 x0.2.2.1), (23, .pointer (some ((⟨b_1, 0, .none⟩ : Addr).add (coff (.pair (.int .u16) (.pair (.int .u8) (.pair (.int .u8) (.pair (.int .u8) (.pair .bool (.pair .bool (.int .u8))))))) 2)))), (22, .bool false), (21, .bool false), (1, .pointer (some (⟨b_1, 0, .none⟩ : Addr)))]) S tys tys_ok 2 (by kernel_rfl) ?_
      clear S; intro a S
      obtain rfl := Option.some.inj eq_16
      exact ⟨rfl, S.sub (by exact ⟨rfl, rfl, trivial⟩)⟩
    · rw [if_neg hc] at eq_16; rw [show q_13 = true from (by simpa using hc)] at S
      refine wl_pure (l' := [(26, .bool true), (25, undef), (24, undef), (23, undef), (22, .bool true), (21, .bool true), (1, .pointer (some (⟨b_1, 0, .none⟩ : Addr)))]) S tys tys_ok 4 (by kernel_rfl) ?_
      clear S; intro a S
      obtain rfl := Option.some.inj eq_16
      exact ⟨rfl, S.sub (by exact ⟨rfl, rfl, trivial⟩)⟩
  clear S eq_16; rintro a _ ⟨rfl, S⟩
  refine wl_pure (l' := [(27, .bool q_16), (26, .bool q_16), (1, .pointer (some (⟨b_1, 0, .none⟩ : Addr)))]) S tys tys_ok 1 (by kernel_rfl) ?_
  clear S; intro a S
  obtain ⟨q_19, eq_19, h⟩ := bindS h
  refine seg 4 (fun a_ w_ => w_3 = w_ ∧ St 56 a_ [(31, .bool q_19), (1, .pointer (some (⟨b_1, 0, .none⟩ : Addr)))]) ?_ ?_
  · by_cases hc : q_16 = false
    · rw [if_pos hc] at eq_19; rw [hc] at S
      refine wl_pure (l' := [(28, .pointer (some ((⟨b_1, 0, .none⟩ : Addr).add (coff (.pair (.int .u16) (.pair (.int .u8) (.pair (.int .u8) (.pair (.int .u8) (.pair .bool (.pair .bool (.int .u8))))))) 6)))), (27, .bool false), (26, .bool false), (1, .pointer (some (⟨b_1, 0, .none⟩ : Addr)))]) S tys tys_ok 1 (by kernel_rfl) ?_
      clear S; intro a S
      refine w_go S rfl (op_load (t := (.int .u8)) (x := x0.2.2.2.2.2.2) S rfl ty5 rfl rfl rfl (RepAt.add 6 (RepAt.st B_2.at_)) ?_)
      clear S; intro a v_20 R_21 S
      obtain ⟨rfl, GR_21⟩ := RepV.int R_21
      refine wl_pure (l' := [(31, .bool (decide (x0.2.2.2.2.2.2 > 250))), (30, .bool (decide (x0.2.2.2.2.2.2 > 250))), (29, .int .u8 x0.2.2.2.2.2.2), (28, .pointer (some ((⟨b_1, 0, .none⟩ : Addr).add (coff (.pair (.int .u16) (.pair (.int .u8) (.pair (.int .u8) (.pair (.int .u8) (.pair .bool (.pair .bool (.int .u8))))))) 6)))), (27, .bool false), (26, .bool false), (1, .pointer (some (⟨b_1, 0, .none⟩ : Addr)))]) S tys tys_ok 2 (by kernel_rfl) ?_
      clear S; intro a S
      obtain rfl := Option.some.inj eq_19
      exact ⟨rfl, S.sub (by exact ⟨rfl, rfl, trivial⟩)⟩
    · rw [if_neg hc] at eq_19; rw [show q_16 = true from (by simpa using hc)] at S
      refine wl_pure (l' := [(31, .bool true), (30, undef), (29, undef), (28, undef), (27, .bool true), (26, .bool true), (1, .pointer (some (⟨b_1, 0, .none⟩ : Addr)))]) S tys tys_ok 4 (by kernel_rfl) ?_
      clear S; intro a S
      obtain rfl := Option.some.inj eq_19
      exact ⟨rfl, S.sub (by exact ⟨rfl, rfl, trivial⟩)⟩
  clear S eq_19; rintro a _ ⟨rfl, S⟩
  refine wpList_nil ?_
  refine then_n ?_
  refine wp_cond_split (S.eval (show ev _ _ = some (.bool q_19) from rfl)) ?_ ?_
  · intro hc
    rw [if_pos hc] at h
    refine wp_seq ?_
    refine wp_region_lit ?_
    refine wl_pure (l' := [(2, .string (strOfNums ([]))), (31, .bool q_19), (1, .pointer (some (⟨b_1, 0, .none⟩ : Addr)))]) S tys tys_ok 1 (by kernel_rfl) ?_
    clear S; intro a S
    refine wpList_nil ?_
    refine then_n ?_
    replace S := S.sub (l' := [(2, .string (strOfNums ([])))]) (by exact ⟨rfl, trivial⟩)
    refine wp_ret ?_
    refine then_r ?_
    obtain rfl := Option.some.inj h
    exact b_ret1 S rfl rfl ⟨_, rfl, (RepV.mkStr (strG ([]) (by decide) (by decide))), W.below⟩
  · intro hc
    rw [if_neg (Bool.eq_false_iff.1 hc)] at h
    refine wp_skip ?_
    refine then_n ?_
    replace S := S.sub (l' := [(1, .pointer (some (⟨b_1, 0, .none⟩ : Addr)))]) (by exact ⟨rfl, trivial⟩)
    refine wp_seq ?_
    refine wp_region_lit ?_
    refine wl_pure (l' := [(3, .int .u8 128), (1, .pointer (some (⟨b_1, 0, .none⟩ : Addr)))]) S tys tys_ok 1 (by kernel_rfl) ?_
    clear S; intro a S
    refine wpList_nil ?_
    refine then_n ?_
    refine wp_seq ?_
    refine wp_seq ?_
    refine wp_region_lit ?_
    refine wl_pure (l' := [(32, .pointer (some ((⟨b_1, 0, .none⟩ : Addr).add (coff (.pair (.int .u16) (.pair (.int .u8) (.pair (.int .u8) (.pair (.int .u8) (.pair .bool (.pair .bool (.int .u8))))))) 4)))), (3, .int .u8 128), (1, .pointer (some (⟨b_1, 0, .none⟩ : Addr)))]) S tys tys_ok 1 (by kernel_rfl) ?_
    clear S; intro a S
    refine w_go S rfl (op_load (t := .bool) (x := x0.2.2.2.2.1) S rfl ty4 rfl rfl rfl (RepAt.add 4 (RepAt.st B_2.at_)) ?_)
    clear S; intro a v_22 R_23 S
    obtain rfl := RepV.bool R_23
    refine wpList_nil ?_
    refine then_n ?_
    replace S := S.sub (l' := [(33, .bool x0.2.2.2.2.1), (3, .int .u8 128), (1, .pointer (some (⟨b_1, 0, .none⟩ : Addr)))]) (by exact ⟨rfl, rfl, rfl, trivial⟩)
    obtain ⟨j_24, ej_24, h⟩ := bindS h
    refine wp_cut_ (fun a_ w_ => St 56 a_ [(3, .int .u8 j_24), (1, .pointer (some (⟨b_1, 0, .none⟩ : Addr)))] ∧ Wd w w_ [some b_1] ∧ InR .u8 j_24 ∧ Bx (.st (.pair (.int .u16) (.pair (.int .u8) (.pair (.int .u8) (.pair (.int .u8) (.pair .bool (.pair .bool (.int .u8)))))))) 51 w_ (Kx K w.heap.size [some b_1]) b_1 x0) ?_ ?_
    · refine wp_cond_split (S.eval (show ev _ _ = some (.bool x0.2.2.2.2.1) from rfl)) ?_ ?_
      · intro hc
        rw [if_pos hc] at ej_24
        refine wp_region_lit ?_
        refine wl_pure (l' := [(3, .int .u8 (IntKind.wrap .u8 (128 + 64))), (35, .int .u8 (IntKind.wrap .u8 (128 + 64))), (34, .int .u8 128), (33, .bool x0.2.2.2.2.1), (3, .int .u8 128), (1, .pointer (some (⟨b_1, 0, .none⟩ : Addr)))]) S tys tys_ok 3 (by kernel_rfl) ?_
        clear S; intro a S
        refine wpList_nil ?_
        refine then_n ?_
        obtain rfl := Option.some.inj ej_24
        exact ⟨S.sub (by exact ⟨rfl, rfl, trivial⟩), W, (inR_wrap _ _), B_2⟩
      · intro hc
        rw [if_neg (Bool.eq_false_iff.1 hc)] at ej_24
        refine wp_skip ?_
        refine then_n ?_
        obtain rfl := Option.some.inj ej_24
        exact ⟨S.sub (by exact ⟨rfl, rfl, trivial⟩), W, (by decide), B_2⟩
    clear S W; rintro a w_26 ⟨S, W, G_25, B_2⟩
    refine then_n ?_
    refine wp_seq ?_
    refine wp_seq ?_
    refine wp_region_lit ?_
    refine wl_pure (l' := [(36, .pointer (some ((⟨b_1, 0, .none⟩ : Addr).add (coff (.pair (.int .u16) (.pair (.int .u8) (.pair (.int .u8) (.pair (.int .u8) (.pair .bool (.pair .bool (.int .u8))))))) 5)))), (3, .int .u8 j_24), (1, .pointer (some (⟨b_1, 0, .none⟩ : Addr)))]) S tys tys_ok 1 (by kernel_rfl) ?_
    clear S; intro a S
    refine w_go S rfl (op_load (t := .bool) (x := x0.2.2.2.2.2.1) S rfl ty4 rfl rfl rfl (RepAt.add 5 (RepAt.st B_2.at_)) ?_)
    clear S; intro a v_27 R_28 S
    obtain rfl := RepV.bool R_28
    refine wpList_nil ?_
    refine then_n ?_
    replace S := S.sub (l' := [(37, .bool x0.2.2.2.2.2.1), (3, .int .u8 j_24), (1, .pointer (some (⟨b_1, 0, .none⟩ : Addr)))]) (by exact ⟨rfl, rfl, rfl, trivial⟩)
    obtain ⟨j_29, ej_29, h⟩ := bindS h
    refine wp_cut_ (fun a_ w_ => St 56 a_ [(3, .int .u8 j_29), (1, .pointer (some (⟨b_1, 0, .none⟩ : Addr)))] ∧ Wd w w_ [some b_1] ∧ InR .u8 j_29 ∧ Bx (.st (.pair (.int .u16) (.pair (.int .u8) (.pair (.int .u8) (.pair (.int .u8) (.pair .bool (.pair .bool (.int .u8)))))))) 51 w_ (Kx K w.heap.size [some b_1]) b_1 x0) ?_ ?_
    · refine wp_cond_split (S.eval (show ev _ _ = some (.bool x0.2.2.2.2.2.1) from rfl)) ?_ ?_
      · intro hc
        rw [if_pos hc] at ej_29
        refine wp_region_lit ?_
        refine wl_pure (l' := [(3, .int .u8 (IntKind.wrap .u8 (j_24 + 32))), (39, .int .u8 (IntKind.wrap .u8 (j_24 + 32))), (38, .int .u8 j_24), (37, .bool x0.2.2.2.2.2.1), (3, .int .u8 j_24), (1, .pointer (some (⟨b_1, 0, .none⟩ : Addr)))]) S tys tys_ok 3 (by kernel_rfl) ?_
        clear S; intro a S
        refine wpList_nil ?_
        refine then_n ?_
        obtain rfl := Option.some.inj ej_29
        exact ⟨S.sub (by exact ⟨rfl, rfl, trivial⟩), W, (inR_wrap _ _), B_2⟩
      · intro hc
        rw [if_neg (Bool.eq_false_iff.1 hc)] at ej_29
        refine wp_skip ?_
        refine then_n ?_
        obtain rfl := Option.some.inj ej_29
        exact ⟨S.sub (by exact ⟨rfl, rfl, trivial⟩), W, G_25, B_2⟩
    clear S W; rintro a w_31 ⟨S, W, G_30, B_2⟩
    refine then_n ?_
    refine wp_seq ?_
    obtain ⟨t_34, et_34, h⟩ := bindS h
    obtain ⟨s_39, es_39, h⟩ := bindS h
    obtain ⟨s_52, es_52, h⟩ := bindS h
    have hR : Rel (Kx K w.heap.size [some b_1]) Bl := Bl.rel _
    refine wp_region_all hR [eqv (.pointer (some ((⟨b_1, 0, .none⟩ : Addr).add (coff (.pair (.int .u16) (.pair (.int .u8) (.pair (.int .u8) (.pair (.int .u8) (.pair .bool (.pair .bool (.int .u8))))))) 0)))), isI .u16 x0.1, isS t_34, isS s_39, eqv (.pointer (some ((⟨b_1, 0, .none⟩ : Addr).add (coff (.pair (.int .u16) (.pair (.int .u8) (.pair (.int .u8) (.pair (.int .u8) (.pair .bool (.pair .bool (.int .u8))))))) 1)))), isI .u8 x0.2.1, eqv (.pointer (some ((⟨b_1, 0, .none⟩ : Addr).add (coff (.pair (.int .u16) (.pair (.int .u8) (.pair (.int .u8) (.pair (.int .u8) (.pair .bool (.pair .bool (.int .u8))))))) 2)))), isI .u8 x0.2.2.1, eqv (.pointer (some ((⟨b_1, 0, .none⟩ : Addr).add (coff (.pair (.int .u16) (.pair (.int .u8) (.pair (.int .u8) (.pair (.int .u8) (.pair .bool (.pair .bool (.int .u8))))))) 3)))), isI .u8 x0.2.2.2.1, isI .u8 j_29, eqv (.pointer (some ((⟨b_1, 0, .none⟩ : Addr).add (coff (.pair (.int .u16) (.pair (.int .u8) (.pair (.int .u8) (.pair (.int .u8) (.pair .bool (.pair .bool (.int .u8))))))) 6)))), isI .u8 x0.2.2.2.2.2.2, isRep (.sl (.int .u8)) (Kx K w.heap.size [some b_1]) (⟨[x0.2.1, x0.2.2.1, x0.2.2.2.1, j_29, x0.2.2.2.2.2.2], some 5⟩ : Sl (Int)), isS ((⟨[x0.2.1, x0.2.2.1, x0.2.2.2.1, j_29, x0.2.2.2.2.2.2], some 5⟩ : Sl (Int)).xs), isS s_52, isS s_52] [[], [(0, 40)], [(1, 41)], [(2, 42)], [], [(4, 44)], [], [(6, 46)], [], [(8, 48)], [], [], [(11, 51)], [(5, 45), (7, 47), (9, 49), (10, 50), (12, 52)], [(13, 53)], [(3, 43), (14, 54)], [(15, 55)]] (by kernel_rfl) (by rw [S.size]; kernel_rfl) (by kernel_rfl) (by kernel_rfl) rfl ⟨(stab_eqv _), stab_I, stab_S, stab_S, (stab_eqv _), stab_I, (stab_eqv _), stab_I, (stab_eqv _), stab_I, stab_I, (stab_eqv _), stab_I, (stab_rep hR), stab_S, stab_S, stab_S, trivial⟩ ?_ ?_
    ·
      refine RunAll.cons (eqv (.pointer (some ((⟨b_1, 0, .none⟩ : Addr).add (coff (.pair (.int .u16) (.pair (.int .u8) (.pair (.int .u8) (.pair (.int .u8) (.pair .bool (.pair .bool (.int .u8))))))) 0))))) [] rfl rfl ?_ ?_
      · intro W_ hW
        have S1 := S
        refine fill_nil S1 ?_; clear S1; intro a_ S1
        replace B_2 := B_2.step hW
        have S0 := S.defers; replace S := S1; clear S1
        refine wl_pure (l' := [(40, .pointer (some ((⟨b_1, 0, .none⟩ : Addr).add (coff (.pair (.int .u16) (.pair (.int .u8) (.pair (.int .u8) (.pair (.int .u8) (.pair .bool (.pair .bool (.int .u8))))))) 0)))), (3, .int .u8 j_29), (1, .pointer (some (⟨b_1, 0, .none⟩ : Addr)))]) S tys tys_ok 1 (by kernel_rfl) ?_; clear S; intro a S
        refine wpList_nil ?_
        exact RPost.mk_ S rfl S0 rfl (Below.refl _ _)
      refine RunAll.cons (isI .u16 x0.1) [(eqv (.pointer (some ((⟨b_1, 0, .none⟩ : Addr).add (coff (.pair (.int .u16) (.pair (.int .u8) (.pair (.int .u8) (.pair (.int .u8) (.pair .bool (.pair .bool (.int .u8))))))) 0)))), 40)] rfl rfl ?_ ?_
      · intro W_ hW
        have S1 := S
        intro v_54 hF_53; obtain rfl : v_54 = .pointer (some ((⟨b_1, 0, .none⟩ : Addr).add (coff (.pair (.int .u16) (.pair (.int .u8) (.pair (.int .u8) (.pair (.int .u8) (.pair .bool (.pair .bool (.int .u8))))))) 0))) := hF_53
        replace S1 := S1.put (by decide : 40 < 56) (.pointer (some ((⟨b_1, 0, .none⟩ : Addr).add (coff (.pair (.int .u16) (.pair (.int .u8) (.pair (.int .u8) (.pair (.int .u8) (.pair .bool (.pair .bool (.int .u8))))))) 0))))
        refine fill_nil S1 ?_; clear S1; intro a_ S1
        replace B_2 := B_2.step hW
        have S0 := S.defers; replace S := S1; clear S1
        refine w_go S rfl (op_load (t := (.int .u16)) (x := x0.1) S rfl ty33 rfl rfl rfl (RepAt.add 0 (RepAt.st B_2.at_)) ?_)
        clear S; intro a v_55 R_56 S
        obtain ⟨rfl, GR_56⟩ := RepV.int R_56
        refine wpList_nil ?_
        exact RPost.mk_ S rfl S0 ⟨rfl, GR_56⟩ (Below.refl _ _)
      refine RunAll.cons (isS t_34) [(isI .u16 x0.1, 41)] rfl rfl ?_ ?_
      · intro W_ hW
        have S1 := S
        rintro _ ⟨rfl, hF_57⟩
        replace S1 := S1.put (by decide : 41 < 56) (.int .u16 x0.1)
        refine fill_nil S1 ?_; clear S1; intro a_ S1
        replace W := W.step hW
        have S0 := S.defers; replace S := S1; clear S1
        refine w_go S rfl (op_call (vs := [.int .u16 x0.1]) S rfl cb38 rfl rfl rfl (c38 (Kx K w.heap.size [some b_1]) n W_ x0.1 hF_57 et_34) ?_)
        rintro _ w_62 ⟨v_59, rfl, R_60, hb_61⟩; refine ⟨_, rfl, ?_⟩
        replace R_60 := RepV.back R_60 W
        clear S; intro a S
        obtain ⟨rfl, GR_60⟩ := RepV.str R_60
        refine wpList_nil ?_
        exact RPost.mk_ S rfl S0 ⟨rfl, GR_60⟩ (hb_61)
      refine RunAll.cons (isS s_39) [(isS t_34, 42)] rfl rfl ?_ ?_
      · intro W_ hW
        have S1 := S
        rintro _ ⟨rfl, hF_63⟩
        replace S1 := S1.put (by decide : 42 < 56) (.string (strOfNums t_34))
        refine fill_nil S1 ?_; clear S1; intro a_ S1
        have S0 := S.defers; replace S := S1; clear S1
        refine w_go S rfl (op_cat S rfl rfl rfl (by kernel_rfl) rfl es_39 ?_)
        clear S; intro a S
        refine wpList_nil ?_
        exact RPost.mk_ S rfl S0 ⟨rfl, (catS_ok (strG ([9, 2]) (by decide) (by decide)) hF_63 es_39)⟩ (Below.refl _ _)
      refine RunAll.cons (eqv (.pointer (some ((⟨b_1, 0, .none⟩ : Addr).add (coff (.pair (.int .u16) (.pair (.int .u8) (.pair (.int .u8) (.pair (.int .u8) (.pair .bool (.pair .bool (.int .u8))))))) 1))))) [] rfl rfl ?_ ?_
      · intro W_ hW
        have S1 := S
        refine fill_nil S1 ?_; clear S1; intro a_ S1
        replace B_2 := B_2.step hW
        have S0 := S.defers; replace S := S1; clear S1
        refine wl_pure (l' := [(44, .pointer (some ((⟨b_1, 0, .none⟩ : Addr).add (coff (.pair (.int .u16) (.pair (.int .u8) (.pair (.int .u8) (.pair (.int .u8) (.pair .bool (.pair .bool (.int .u8))))))) 1)))), (3, .int .u8 j_29), (1, .pointer (some (⟨b_1, 0, .none⟩ : Addr)))]) S tys tys_ok 1 (by kernel_rfl) ?_; clear S; intro a S
        refine wpList_nil ?_
        exact RPost.mk_ S rfl S0 rfl (Below.refl _ _)
      refine RunAll.cons (isI .u8 x0.2.1) [(eqv (.pointer (some ((⟨b_1, 0, .none⟩ : Addr).add (coff (.pair (.int .u16) (.pair (.int .u8) (.pair (.int .u8) (.pair (.int .u8) (.pair .bool (.pair .bool (.int .u8))))))) 1)))), 44)] rfl rfl ?_ ?_
      · intro W_ hW
        have S1 := S
        intro v_66 hF_65; obtain rfl : v_66 = .pointer (some ((⟨b_1, 0, .none⟩ : Addr).add (coff (.pair (.int .u16) (.pair (.int .u8) (.pair (.int .u8) (.pair (.int .u8) (.pair .bool (.pair .bool (.int .u8))))))) 1))) := hF_65
        replace S1 := S1.put (by decide : 44 < 56) (.pointer (some ((⟨b_1, 0, .none⟩ : Addr).add (coff (.pair (.int .u16) (.pair (.int .u8) (.pair (.int .u8) (.pair (.int .u8) (.pair .bool (.pair .bool (.int .u8))))))) 1))))
        refine fill_nil S1 ?_; clear S1; intro a_ S1
        replace B_2 := B_2.step hW
        have S0 := S.defers; replace S := S1; clear S1
        refine w_go S rfl (op_load (t := (.int .u8)) (x := x0.2.1) S rfl ty5 rfl rfl rfl (RepAt.add 1 (RepAt.st B_2.at_)) ?_)
        clear S; intro a v_67 R_68 S
        obtain ⟨rfl, GR_68⟩ := RepV.int R_68
        refine wpList_nil ?_
        exact RPost.mk_ S rfl S0 ⟨rfl, GR_68⟩ (Below.refl _ _)
      refine RunAll.cons (eqv (.pointer (some ((⟨b_1, 0, .none⟩ : Addr).add (coff (.pair (.int .u16) (.pair (.int .u8) (.pair (.int .u8) (.pair (.int .u8) (.pair .bool (.pair .bool (.int .u8))))))) 2))))) [] rfl rfl ?_ ?_
      · intro W_ hW
        have S1 := S
        refine fill_nil S1 ?_; clear S1; intro a_ S1
        replace B_2 := B_2.step hW
        have S0 := S.defers; replace S := S1; clear S1
        refine wl_pure (l' := [(46, .pointer (some ((⟨b_1, 0, .none⟩ : Addr).add (coff (.pair (.int .u16) (.pair (.int .u8) (.pair (.int .u8) (.pair (.int .u8) (.pair .bool (.pair .bool (.int .u8))))))) 2)))), (3, .int .u8 j_29), (1, .pointer (some (⟨b_1, 0, .none⟩ : Addr)))]) S tys tys_ok 1 (by kernel_rfl) ?_; clear S; intro a S
        refine wpList_nil ?_
        exact RPost.mk_ S rfl S0 rfl (Below.refl _ _)
      refine RunAll.cons (isI .u8 x0.2.2.1) [(eqv (.pointer (some ((⟨b_1, 0, .none⟩ : Addr).add (coff (.pair (.int .u16) (.pair (.int .u8) (.pair (.int .u8) (.pair (.int .u8) (.pair .bool (.pair .bool (.int .u8))))))) 2)))), 46)] rfl rfl ?_ ?_
      · intro W_ hW
        have S1 := S
        intro v_70 hF_69; obtain rfl : v_70 = .pointer (some ((⟨b_1, 0, .none⟩ : Addr).add (coff (.pair (.int .u16) (.pair (.int .u8) (.pair (.int .u8) (.pair (.int .u8) (.pair .bool (.pair .bool (.int .u8))))))) 2))) := hF_69
        replace S1 := S1.put (by decide : 46 < 56) (.pointer (some ((⟨b_1, 0, .none⟩ : Addr).add (coff (.pair (.int .u16) (.pair (.int .u8) (.pair (.int .u8) (.pair (.int .u8) (.pair .bool (.pair .bool (.int .u8))))))) 2))))
        refine fill_nil S1 ?_; clear S1; intro a_ S1
        replace B_2 := B_2.step hW
        have S0 := S.defers; replace S := S1; clear S1
        refine w_go S rfl (op_load (t := (.int .u8)) (x := x0.2.2.1) S rfl ty5 rfl rfl rfl (RepAt.add 2 (RepAt.st B_2.at_)) ?_)
        clear S; intro a v_71 R_72 S
        obtain ⟨rfl, GR_72⟩ := RepV.int R_72
        refine wpList_nil ?_
        exact RPost.mk_ S rfl S0 ⟨rfl, GR_72⟩ (Below.refl _ _)
      refine RunAll.cons (eqv (.pointer (some ((⟨b_1, 0, .none⟩ : Addr).add (coff (.pair (.int .u16) (.pair (.int .u8) (.pair (.int .u8) (.pair (.int .u8) (.pair .bool (.pair .bool (.int .u8))))))) 3))))) [] rfl rfl ?_ ?_
      · intro W_ hW
        have S1 := S
        refine fill_nil S1 ?_; clear S1; intro a_ S1
        replace B_2 := B_2.step hW
        have S0 := S.defers; replace S := S1; clear S1
        refine wl_pure (l' := [(48, .pointer (some ((⟨b_1, 0, .none⟩ : Addr).add (coff (.pair (.int .u16) (.pair (.int .u8) (.pair (.int .u8) (.pair (.int .u8) (.pair .bool (.pair .bool (.int .u8))))))) 3)))), (3, .int .u8 j_29), (1, .pointer (some (⟨b_1, 0, .none⟩ : Addr)))]) S tys tys_ok 1 (by kernel_rfl) ?_; clear S; intro a S
        refine wpList_nil ?_
        exact RPost.mk_ S rfl S0 rfl (Below.refl _ _)
      refine RunAll.cons (isI .u8 x0.2.2.2.1) [(eqv (.pointer (some ((⟨b_1, 0, .none⟩ : Addr).add (coff (.pair (.int .u16) (.pair (.int .u8) (.pair (.int .u8) (.pair (.int .u8) (.pair .bool (.pair .bool (.int .u8))))))) 3)))), 48)] rfl rfl ?_ ?_
      · intro W_ hW
        have S1 := S
        intro v_74 hF_73; obtain rfl : v_74 = .pointer (some ((⟨b_1, 0, .none⟩ : Addr).add (coff (.pair (.int .u16) (.pair (.int .u8) (.pair (.int .u8) (.pair (.int .u8) (.pair .bool (.pair .bool (.int .u8))))))) 3))) := hF_73
        replace S1 := S1.put (by decide : 48 < 56) (.pointer (some ((⟨b_1, 0, .none⟩ : Addr).add (coff (.pair (.int .u16) (.pair (.int .u8) (.pair (.int .u8) (.pair (.int .u8) (.pair .bool (.pair .bool (.int .u8))))))) 3))))
        refine fill_nil S1 ?_; clear S1; intro a_ S1
        replace B_2 := B_2.step hW
        have S0 := S.defers; replace S := S1; clear S1
        refine w_go S rfl (op_load (t := (.int .u8)) (x := x0.2.2.2.1) S rfl ty5 rfl rfl rfl (RepAt.add 3 (RepAt.st B_2.at_)) ?_)
        clear S; intro a v_75 R_76 S
        obtain ⟨rfl, GR_76⟩ := RepV.int R_76
        refine wpList_nil ?_
        exact RPost.mk_ S rfl S0 ⟨rfl, GR_76⟩ (Below.refl _ _)
      refine RunAll.cons (isI .u8 j_29) [] rfl rfl ?_ ?_
      · intro W_ hW
        have S1 := S
        refine fill_nil S1 ?_; clear S1; intro a_ S1
        have S0 := S.defers; replace S := S1; clear S1
        refine wl_pure (l' := [(50, .int .u8 j_29), (3, .int .u8 j_29), (1, .pointer (some (⟨b_1, 0, .none⟩ : Addr)))]) S tys tys_ok 1 (by kernel_rfl) ?_; clear S; intro a S
        refine wpList_nil ?_
        exact RPost.mk_ S rfl S0 ⟨rfl, G_30⟩ (Below.refl _ _)
      refine RunAll.cons (eqv (.pointer (some ((⟨b_1, 0, .none⟩ : Addr).add (coff (.pair (.int .u16) (.pair (.int .u8) (.pair (.int .u8) (.pair (.int .u8) (.pair .bool (.pair .bool (.int .u8))))))) 6))))) [] rfl rfl ?_ ?_
      · intro W_ hW
        have S1 := S
        refine fill_nil S1 ?_; clear S1; intro a_ S1
        replace B_2 := B_2.step hW
        have S0 := S.defers; replace S := S1; clear S1
        refine wl_pure (l' := [(51, .pointer (some ((⟨b_1, 0, .none⟩ : Addr).add (coff (.pair (.int .u16) (.pair (.int .u8) (.pair (.int .u8) (.pair (.int .u8) (.pair .bool (.pair .bool (.int .u8))))))) 6)))), (3, .int .u8 j_29), (1, .pointer (some (⟨b_1, 0, .none⟩ : Addr)))]) S tys tys_ok 1 (by kernel_rfl) ?_; clear S; intro a S
        refine wpList_nil ?_
        exact RPost.mk_ S rfl S0 rfl (Below.refl _ _)
      refine RunAll.cons (isI .u8 x0.2.2.2.2.2.2) [(eqv (.pointer (some ((⟨b_1, 0, .none⟩ : Addr).add (coff (.pair (.int .u16) (.pair (.int .u8) (.pair (.int .u8) (.pair (.int .u8) (.pair .bool (.pair .bool (.int .u8))))))) 6)))), 51)] rfl rfl ?_ ?_
      · intro W_ hW
        have S1 := S
        intro v_78 hF_77; obtain rfl : v_78 = .pointer (some ((⟨b_1, 0, .none⟩ : Addr).add (coff (.pair (.int .u16) (.pair (.int .u8) (.pair (.int .u8) (.pair (.int .u8) (.pair .bool (.pair .bool (.int .u8))))))) 6))) := hF_77
        replace S1 := S1.put (by decide : 51 < 56) (.pointer (some ((⟨b_1, 0, .none⟩ : Addr).add (coff (.pair (.int .u16) (.pair (.int .u8) (.pair (.int .u8) (.pair (.int .u8) (.pair .bool (.pair .bool (.int .u8))))))) 6))))
        refine fill_nil S1 ?_; clear S1; intro a_ S1
        replace B_2 := B_2.step hW
        have S0 := S.defers; replace S := S1; clear S1
        refine w_go S rfl (op_load (t := (.int .u8)) (x := x0.2.2.2.2.2.2) S rfl ty5 rfl rfl rfl (RepAt.add 6 (RepAt.st B_2.at_)) ?_)
        clear S; intro a v_79 R_80 S
        obtain ⟨rfl, GR_80⟩ := RepV.int R_80
        refine wpList_nil ?_
        exact RPost.mk_ S rfl S0 ⟨rfl, GR_80⟩ (Below.refl _ _)
      refine RunAll.cons (isRep (.sl (.int .u8)) (Kx K w.heap.size [some b_1]) (⟨[x0.2.1, x0.2.2.1, x0.2.2.2.1, j_29, x0.2.2.2.2.2.2], some 5⟩ : Sl (Int))) [(isI .u8 x0.2.1, 45), (isI .u8 x0.2.2.1, 47), (isI .u8 x0.2.2.2.1, 49), (isI .u8 j_29, 50), (isI .u8 x0.2.2.2.2.2.2, 52)] rfl rfl ?_ ?_
      · intro W_ hW
        have S1 := S
        rintro _ ⟨rfl, hF_81⟩
        replace S1 := S1.put (by decide : 45 < 56) (.int .u8 x0.2.1)
        rintro _ ⟨rfl, hF_83⟩
        replace S1 := S1.put (by decide : 47 < 56) (.int .u8 x0.2.2.1)
        rintro _ ⟨rfl, hF_85⟩
        replace S1 := S1.put (by decide : 49 < 56) (.int .u8 x0.2.2.2.1)
        rintro _ ⟨rfl, hF_87⟩
        replace S1 := S1.put (by decide : 50 < 56) (.int .u8 j_29)
        rintro _ ⟨rfl, hF_89⟩
        replace S1 := S1.put (by decide : 52 < 56) (.int .u8 x0.2.2.2.2.2.2)
        refine fill_nil S1 ?_; clear S1; intro a_ S1
        replace W := W.step hW
        have S0 := S.defers; replace S := S1; clear S1
        refine w_go S rfl (op_buildSlice (K := K) (e := (.int .u8)) (vs := [.int .u8 x0.2.1, .int .u8 x0.2.2.1, .int .u8 x0.2.2.2.1, .int .u8 j_29, .int .u8 x0.2.2.2.2.2.2]) (xs := [x0.2.1, x0.2.2.1, x0.2.2.2.1, j_29, x0.2.2.2.2.2.2]) S W rfl ty23 rfl rfl (by kernel_rfl) rfl rfl rfl rfl rfl ⟨(RepV.mkInt hF_81), (RepV.mkInt hF_83), (RepV.mkInt hF_85), (RepV.mkInt hF_87), (RepV.mkInt hF_89), trivial⟩ ?_)
        clear S; intro a w_94 v_91 hb_93 R_92 S
        refine wpList_nil ?_
        exact RPost.mk_ S rfl S0 R_92 (hb_93)
      refine RunAll.cons (isS ((⟨[x0.2.1, x0.2.2.1, x0.2.2.2.1, j_29, x0.2.2.2.2.2.2], some 5⟩ : Sl (Int)).xs)) [(isRep (.sl (.int .u8)) (Kx K w.heap.size [some b_1]) (⟨[x0.2.1, x0.2.2.1, x0.2.2.2.1, j_29, x0.2.2.2.2.2.2], some 5⟩ : Sl (Int)), 53)] rfl rfl ?_ ?_
      · intro W_ hW
        have S1 := S
        intro v_96 hF_95; replace hF_95 : RepV _ _ _ _ _ := hF_95
        replace S1 := S1.put (by decide : 53 < 56) (v_96)
        refine fill_nil S1 ?_; clear S1; intro a_ S1
        replace W := W.step hW
        have S0 := S.defers; replace S := S1; clear S1
        refine w_go S rfl (op_str (K := _) S rfl ty23 ty9 rfl rfl rfl hF_95 ?_)
        clear S; intro a S
        refine wpList_nil ?_
        exact RPost.mk_ S rfl S0 ⟨rfl, hF_95.byt⟩ (Below.refl _ _)
      refine RunAll.cons (isS s_52) [(isS s_39, 43), (isS ((⟨[x0.2.1, x0.2.2.1, x0.2.2.2.1, j_29, x0.2.2.2.2.2.2], some 5⟩ : Sl (Int)).xs), 54)] rfl rfl ?_ ?_
      · intro W_ hW
        have S1 := S
        rintro _ ⟨rfl, hF_97⟩
        replace S1 := S1.put (by decide : 43 < 56) (.string (strOfNums s_39))
        rintro _ ⟨rfl, hF_99⟩
        replace S1 := S1.put (by decide : 54 < 56) (.string (strOfNums ((⟨[x0.2.1, x0.2.2.1, x0.2.2.2.1, j_29, x0.2.2.2.2.2.2], some 5⟩ : Sl (Int)).xs)))
        refine fill_nil S1 ?_; clear S1; intro a_ S1
        have S0 := S.defers; replace S := S1; clear S1
        refine w_go S rfl (op_cat S rfl rfl rfl rfl rfl es_52 ?_)
        clear S; intro a S
        refine wpList_nil ?_
        exact RPost.mk_ S rfl S0 ⟨rfl, (catS_ok hF_97 hF_99 es_52)⟩ (Below.refl _ _)
      refine RunAll.cons (isS s_52) [(isS s_52, 55)] rfl rfl ?_ ?_
      · intro W_ hW
        have S1 := S
        rintro _ ⟨rfl, hF_101⟩
        replace S1 := S1.put (by decide : 55 < 56) (.string (strOfNums s_52))
        refine fill_nil S1 ?_; clear S1; intro a_ S1
        have S0 := S.defers; replace S := S1; clear S1
        refine wl_pure (l' := [(2, .string (strOfNums s_52)), (55, .string (strOfNums s_52)), (3, .int .u8 j_29), (1, .pointer (some (⟨b_1, 0, .none⟩ : Addr)))]) S tys tys_ok 1 (by kernel_rfl) ?_; clear S; intro a S
        refine wpList_nil ?_
        exact RPost.mk_ S rfl S0 ⟨rfl, hF_101⟩ (Below.refl _ _)
      exact trivial
    intro w_103 hb_104
    refine EndE.some_ rfl ?_
    intro v_106 hF_105; obtain rfl : v_106 = .pointer (some ((⟨b_1, 0, .none⟩ : Addr).add (coff (.pair (.int .u16) (.pair (.int .u8) (.pair (.int .u8) (.pair (.int .u8) (.pair .bool (.pair .bool (.int .u8))))))) 0))) := hF_105
    replace S := S.put (by decide : 40 < 56) (.pointer (some ((⟨b_1, 0, .none⟩ : Addr).add (coff (.pair (.int .u16) (.pair (.int .u8) (.pair (.int .u8) (.pair (.int .u8) (.pair .bool (.pair .bool (.int .u8))))))) 0))))
    refine EndE.some_ rfl ?_
    rintro _ ⟨rfl, hF_107⟩
    replace S := S.put (by decide : 41 < 56) (.int .u16 x0.1)
    refine EndE.some_ rfl ?_
    rintro _ ⟨rfl, hF_109⟩
    replace S := S.put (by decide : 42 < 56) (.string (strOfNums t_34))
    refine EndE.some_ rfl ?_
    rintro _ ⟨rfl, hF_111⟩
    replace S := S.put (by decide : 43 < 56) (.string (strOfNums s_39))
    refine EndE.some_ rfl ?_
    intro v_114 hF_113; obtain rfl : v_114 = .pointer (some ((⟨b_1, 0, .none⟩ : Addr).add (coff (.pair (.int .u16) (.pair (.int .u8) (.pair (.int .u8) (.pair (.int .u8) (.pair .bool (.pair .bool (.int .u8))))))) 1))) := hF_113
    replace S := S.put (by decide : 44 < 56) (.pointer (some ((⟨b_1, 0, .none⟩ : Addr).add (coff (.pair (.int .u16) (.pair (.int .u8) (.pair (.int .u8) (.pair (.int .u8) (.pair .bool (.pair .bool (.int .u8))))))) 1))))
    refine EndE.some_ rfl ?_
    rintro _ ⟨rfl, hF_115⟩
    replace S := S.put (by decide : 45 < 56) (.int .u8 x0.2.1)
    refine EndE.some_ rfl ?_
    intro v_118 hF_117; obtain rfl : v_118 = .pointer (some ((⟨b_1, 0, .none⟩ : Addr).add (coff (.pair (.int .u16) (.pair (.int .u8) (.pair (.int .u8) (.pair (.int .u8) (.pair .bool (.pair .bool (.int .u8))))))) 2))) := hF_117
    replace S := S.put (by decide : 46 < 56) (.pointer (some ((⟨b_1, 0, .none⟩ : Addr).add (coff (.pair (.int .u16) (.pair (.int .u8) (.pair (.int .u8) (.pair (.int .u8) (.pair .bool (.pair .bool (.int .u8))))))) 2))))
    refine EndE.some_ rfl ?_
    rintro _ ⟨rfl, hF_119⟩
    replace S := S.put (by decide : 47 < 56) (.int .u8 x0.2.2.1)
    refine EndE.some_ rfl ?_
    intro v_122 hF_121; obtain rfl : v_122 = .pointer (some ((⟨b_1, 0, .none⟩ : Addr).add (coff (.pair (.int .u16) (.pair (.int .u8) (.pair (.int .u8) (.pair (.int .u8) (.pair .bool (.pair .bool (.int .u8))))))) 3))) := hF_121
    replace S := S.put (by decide : 48 < 56) (.pointer (some ((⟨b_1, 0, .none⟩ : Addr).add (coff (.pair (.int .u16) (.pair (.int .u8) (.pair (.int .u8) (.pair (.int .u8) (.pair .bool (.pair .bool (.int .u8))))))) 3))))
    refine EndE.some_ rfl ?_
    rintro _ ⟨rfl, hF_123⟩
    replace S := S.put (by decide : 49 < 56) (.int .u8 x0.2.2.2.1)
    refine EndE.some_ rfl ?_
    rintro _ ⟨rfl, hF_125⟩
    replace S := S.put (by decide : 50 < 56) (.int .u8 j_29)
    refine EndE.some_ rfl ?_
    intro v_128 hF_127; obtain rfl : v_128 = .pointer (some ((⟨b_1, 0, .none⟩ : Addr).add (coff (.pair (.int .u16) (.pair (.int .u8) (.pair (.int .u8) (.pair (.int .u8) (.pair .bool (.pair .bool (.int .u8))))))) 6))) := hF_127
    replace S := S.put (by decide : 51 < 56) (.pointer (some ((⟨b_1, 0, .none⟩ : Addr).add (coff (.pair (.int .u16) (.pair (.int .u8) (.pair (.int .u8) (.pair (.int .u8) (.pair .bool (.pair .bool (.int .u8))))))) 6))))
    refine EndE.some_ rfl ?_
    rintro _ ⟨rfl, hF_129⟩
    replace S := S.put (by decide : 52 < 56) (.int .u8 x0.2.2.2.2.2.2)
    refine EndE.some_ rfl ?_
    intro v_132 hF_131; replace hF_131 : RepV _ _ _ _ _ := hF_131
    replace S := S.put (by decide : 53 < 56) (v_132)
    refine EndE.some_ rfl ?_
    rintro _ ⟨rfl, hF_133⟩
    replace S := S.put (by decide : 54 < 56) (.string (strOfNums ((⟨[x0.2.1, x0.2.2.1, x0.2.2.2.1, j_29, x0.2.2.2.2.2.2], some 5⟩ : Sl (Int)).xs)))
    refine EndE.some_ rfl ?_
    rintro _ ⟨rfl, hF_135⟩
    replace S := S.put (by decide : 55 < 56) (.string (strOfNums s_52))
    refine EndE.some_ rfl ?_
    rintro _ ⟨rfl, hF_137⟩
    replace S := S.put (by decide : 2 < 56) (.string (strOfNums s_52))
    refine endE_nil S ?_; clear S; intro a S
    replace B_2 := B_2.step hb_104
    replace W := W.step hb_104
    refine then_n ?_
    replace S := S.sub (l' := [(2, .string (strOfNums s_52))]) (by exact ⟨rfl, trivial⟩)
    refine wp_ret ?_
    obtain rfl := Option.some.inj h
    exact b_ret1 S rfl rfl ⟨_, rfl, (RepV.mkStr hF_137), W.below⟩
theorem cb20 : callB Try.prog 20 = true := by kernel_rfl
def p45 (n : Nat) (x0 : Sl (Int)) : Option ((Int × Int × Int × Int × Bool × Bool × Int)) :=
  (p46 n x0 2).bind fun t_5 =>
  (idx x0.xs 4).bind fun y_10 =>
  (idx x0.xs 5).bind fun y_16 =>
  (idx x0.xs 6).bind fun y_22 =>
  (idx x0.xs 7).bind fun y_28 =>
  (idx x0.xs 7).bind fun y_34 =>
  (idx x0.xs 8).bind fun y_40 =>
  some (t_5, y_10, y_16, y_22, ((bitsI .and .u8 y_28 64) != 0), ((bitsI .and .u8 y_34 32) != 0), y_40)
set_option maxHeartbeats 4000000 in
set_option maxRecDepth 100000 in
/-- plugboard/descriptors.DecodeConfiguration$1 -/
theorem c45 (K : Nat → Prop) (n : Nat) (w : World) (x0 : Sl (Int)) (v0 : Value) (R0 : RepV (.sl (.int .u8)) w K v0 x0) {r : (Int × Int × Int × Int × Bool × Bool × Int)} (h : p45 n x0 = some r) :
    Calls Try.prog 45 #[v0] w (Ret1 (.st (.pair (.int .u16) (.pair (.int .u8) (.pair (.int .u8) (.pair (.int .u8) (.pair .bool (.pair .bool (.int .u8)))))))) w (Kx K w.heap.size []) r) := by
  refine enter (args := [v0]) Try.func45 rfl 28 rfl rfl fun a S => ?_
  have W := Wd.start w
  replace R0 := R0.arg
  unfold p45 at h
  replace S : St 28 a [(0, v0)] := S
  refine wp_seq ?_
  refine wp_region_lit ?_
  refine w_go S rfl (op_alloc (K := K) (n := w.heap.size) (L := []) (t := (.st (.pair (.int .u16) (.pair (.int .u8) (.pair (.int .u8) (.pair (.int .u8) (.pair .bool (.pair .bool (.int .u8))))))))) (y := (0, 0, 0, 0, false, false, 0)) S rfl rfl rfl _ z51 (fun w K => ⟨[.int .u16 0], [.int .u8 0, .int .u8 0, .int .u8 0, .bool false, .bool false, .int .u8 0], rfl, ⟨rfl, by decide⟩, ⟨[.int .u8 0], [.int .u8 0, .int .u8 0, .bool false, .bool false, .int .u8 0], rfl, ⟨rfl, by decide⟩, ⟨[.int .u8 0], [.int .u8 0, .bool false, .bool false, .int .u8 0], rfl, ⟨rfl, by decide⟩, ⟨[.int .u8 0], [.bool false, .bool false, .int .u8 0], rfl, ⟨rfl, by decide⟩, ⟨[.bool false], [.bool false, .int .u8 0], rfl, rfl, ⟨[.bool false], [.int .u8 0], rfl, rfl, ⟨rfl, by decide⟩⟩⟩⟩⟩⟩⟩) ?_)
  clear S; intro a w_3 b_1 hb_4 B_2 S
  replace R0 := R0.box hb_4
  replace W := W.box hb_4
  refine wpList_nil ?_
  refine then_n ?_
  refine wp_seq ?_
  obtain ⟨t_5, et_5, h⟩ := bindS h
  obtain ⟨y_10, ey_10, h⟩ := bindS h
  obtain ⟨y_16, ey_16, h⟩ := bindS h
  obtain ⟨y_22, ey_22, h⟩ := bindS h
  obtain ⟨y_28, ey_28, h⟩ := bindS h
  obtain ⟨y_34, ey_34, h⟩ := bindS h
  obtain ⟨y_40, ey_40, h⟩ := bindS h
  have hR : Rel (Kx K w.heap.size [some b_1]) (Sto (.st (.pair (.int .u16) (.pair (.int .u8) (.pair (.int .u8) (.pair (.int .u8) (.pair .bool (.pair .bool (.int .u8)))))))) 51 (Kx K w.heap.size [some b_1]) b_1 (t_5, y_10, y_16, y_22, ((bitsI .and .u8 y_28 64) != 0), ((bitsI .and .u8 y_34 32) != 0), y_40)) := Sto.rel (Kx.not (by simp))
  refine wp_region_all hR [isRep (.sl (.int .u8)) (Kx K w.heap.size [some b_1]) x0, isI .u16 t_5, isRep (.sl (.int .u8)) (Kx K w.heap.size [some b_1]) x0, isEl (.int .u8) (Kx K w.heap.size [some b_1]) y_10, isI .u8 y_10, isRep (.sl (.int .u8)) (Kx K w.heap.size [some b_1]) x0, isEl (.int .u8) (Kx K w.heap.size [some b_1]) y_16, isI .u8 y_16, isRep (.sl (.int .u8)) (Kx K w.heap.size [some b_1]) x0, isEl (.int .u8) (Kx K w.heap.size [some b_1]) y_22, isI .u8 y_22, isRep (.sl (.int .u8)) (Kx K w.heap.size [some b_1]) x0, isEl (.int .u8) (Kx K w.heap.size [some b_1]) y_28, isI .u8 y_28, isI .u8 (bitsI .and .u8 y_28 64), eqv (.bool ((bitsI .and .u8 y_28 64) != 0)), isRep (.sl (.int .u8)) (Kx K w.heap.size [some b_1]) x0, isEl (.int .u8) (Kx K w.heap.size [some b_1]) y_34, isI .u8 y_34, isI .u8 (bitsI .and .u8 y_34 32), eqv (.bool ((bitsI .and .u8 y_34 32) != 0)), isRep (.sl (.int .u8)) (Kx K w.heap.size [some b_1]) x0, isEl (.int .u8) (Kx K w.heap.size [some b_1]) y_40, isI .u8 y_40, isRep (.st (.pair (.int .u16) (.pair (.int .u8) (.pair (.int .u8) (.pair (.int .u8) (.pair .bool (.pair .bool (.int .u8)))))))) (Kx K w.heap.size [some b_1]) (t_5, y_10, y_16, y_22, ((bitsI .and .u8 y_28 64) != 0), ((bitsI .and .u8 y_34 32) != 0), y_40), isBx (.st (.pair (.int .u16) (.pair (.int .u8) (.pair (.int .u8) (.pair (.int .u8) (.pair .bool (.pair .bool (.int .u8)))))))) 51 (Kx K w.heap.size [some b_1]) b_1 (t_5, y_10, y_16, y_22, ((bitsI .and .u8 y_28 64) != 0), ((bitsI .and .u8 y_34 32) != 0), y_40)] [[], [(0, 3)], [], [(2, 5)], [(3, 6)], [], [(5, 8)], [(6, 9)], [], [(8, 11)], [(9, 12)], [], [(11, 14)], [(12, 15)], [(13, 16)], [(14, 17)], [], [(16, 19)], [(17, 20)], [(18, 21)], [(19, 22)], [], [(21, 24)], [(22, 25)], [(1, 4), (4, 7), (7, 10), (10, 13), (15, 18), (20, 23), (23, 26)], [(24, 27)]] (by kernel_rfl) (by rw [S.size]; kernel_rfl) (by kernel_rfl) (by kernel_rfl) rfl ⟨(stab_rep hR), stab_I, (stab_rep hR), (stab_el hR), stab_I, (stab_rep hR), (stab_el hR), stab_I, (stab_rep hR), (stab_el hR), stab_I, (stab_rep hR), (stab_el hR), stab_I, stab_I, (stab_eqv _), (stab_rep hR), (stab_el hR), stab_I, stab_I, (stab_eqv _), (stab_rep hR), (stab_el hR), stab_I, (stab_rep hR), stab_bx, trivial⟩ ?_ ?_
  ·
    refine RunAll.cons (isRep (.sl (.int .u8)) (Kx K w.heap.size [some b_1]) x0) [] rfl rfl ?_ ?_
    · intro W_ hW
      have S1 := S
      refine fill_nil S1 ?_; clear S1; intro a_ S1
      replace R0 := R0.lv (hR.lv _ _ hW)
      have S0 := S.defers; replace S := S1; clear S1
      refine wl_pure (l' := [(3, v0), (2, .pointer (some (⟨b_1, 0, .none⟩ : Addr))), (0, v0)]) S tys tys_ok 1 (by kernel_rfl) ?_; clear S; intro a S
      refine wpList_nil ?_
      exact RPost.mk_ S rfl S0 R0 (hR.below _ _ (Below.refl _ _))
    refine RunAll.cons (isI .u16 t_5) [(isRep (.sl (.int .u8)) (Kx K w.heap.size [some b_1]) x0, 3)] rfl rfl ?_ ?_
    · intro W_ hW
      have S1 := S
      intro v_49 hF_48; replace hF_48 : RepV _ _ _ _ _ := hF_48
      replace S1 := S1.put (by decide : 3 < 28) (v_49)
      refine fill_nil S1 ?_; clear S1; intro a_ S1
      replace W := Sto.wd W hW (by simp)
      have S0 := S.defers; replace S := S1; clear S1
      refine w_go S rfl (op_call (vs := [v_49, .int .i64 2]) S rfl cb46 rfl rfl rfl (c46 (Kx K w.heap.size [some b_1]) n W_ x0 _ hF_48 2 (by decide) et_5) ?_)
      rintro _ w_53 ⟨v_50, rfl, R_51, hb_52⟩; refine ⟨_, rfl, ?_⟩
      replace R_51 := RepV.back R_51 W
      clear S; intro a S
      obtain ⟨rfl, GR_51⟩ := RepV.int R_51
      refine wpList_nil ?_
      exact RPost.mk_ S rfl S0 ⟨rfl, GR_51⟩ (hR.below _ _ (hb_52))
    refine RunAll.cons (isRep (.sl (.int .u8)) (Kx K w.heap.size [some b_1]) x0) [] rfl rfl ?_ ?_
    · intro W_ hW
      have S1 := S
      refine fill_nil S1 ?_; clear S1; intro a_ S1
      replace R0 := R0.lv (hR.lv _ _ hW)
      have S0 := S.defers; replace S := S1; clear S1
      refine wl_pure (l' := [(5, v0), (2, .pointer (some (⟨b_1, 0, .none⟩ : Addr))), (0, v0)]) S tys tys_ok 1 (by kernel_rfl) ?_; clear S; intro a S
      refine wpList_nil ?_
      exact RPost.mk_ S rfl S0 R0 (hR.below _ _ (Below.refl _ _))
    refine RunAll.cons (isEl (.int .u8) (Kx K w.heap.size [some b_1]) y_10) [(isRep (.sl (.int .u8)) (Kx K w.heap.size [some b_1]) x0, 5)] rfl rfl ?_ ?_
    · intro W_ hW
      have S1 := S
      intro v_55 hF_54; replace hF_54 : RepV _ _ _ _ _ := hF_54
      replace S1 := S1.put (by decide : 5 < 28) (v_55)
      refine fill_nil S1 ?_; clear S1; intro a_ S1
      have S0 := S.defers; replace S := S1; clear S1
      refine w_go S rfl (op_indexAddr S rfl ty23 rfl rfl rfl hF_54 rfl ey_10 ?_)
      clear S; intro a p_56 R_57 H_58 S
      refine wpList_nil ?_
      exact RPost.mk_ S rfl S0 ⟨_, rfl, R_57, H_58⟩ (hR.below _ _ (Below.refl _ _))
    refine RunAll.cons (isI .u8 y_10) [(isEl (.int .u8) (Kx K w.heap.size [some b_1]) y_10, 6)] rfl rfl ?_ ?_
    · intro W_ hW
      have S1 := S
      rintro _ ⟨p_61, rfl, R_62, H_63⟩
      replace S1 := S1.put (by decide : 6 < 28) (.pointer (some p_61))
      refine fill_nil S1 ?_; clear S1; intro a_ S1
      have S0 := S.defers; replace S := S1; clear S1
      refine w_go S rfl (op_load (t := (.int .u8)) (x := y_10) S rfl ty5 rfl rfl rfl R_62 ?_)
      clear S; intro a v_64 R_65 S
      obtain ⟨rfl, GR_65⟩ := RepV.int R_65
      refine wpList_nil ?_
      exact RPost.mk_ S rfl S0 ⟨rfl, GR_65⟩ (hR.below _ _ (Below.refl _ _))
    refine RunAll.cons (isRep (.sl (.int .u8)) (Kx K w.heap.size [some b_1]) x0) [] rfl rfl ?_ ?_
    · intro W_ hW
      have S1 := S
      refine fill_nil S1 ?_; clear S1; intro a_ S1
      replace R0 := R0.lv (hR.lv _ _ hW)
      have S0 := S.defers; replace S := S1; clear S1
      refine wl_pure (l' := [(8, v0), (2, .pointer (some (⟨b_1, 0, .none⟩ : Addr))), (0, v0)]) S tys tys_ok 1 (by kernel_rfl) ?_; clear S; intro a S
      refine wpList_nil ?_
      exact RPost.mk_ S rfl S0 R0 (hR.below _ _ (Below.refl _ _))
    refine RunAll.cons (isEl (.int .u8) (Kx K w.heap.size [some b_1]) y_16) [(isRep (.sl (.int .u8)) (Kx K w.heap.size [some b_1]) x0, 8)] rfl rfl ?_ ?_
    · intro W_ hW
      have S1 := S
      intro v_67 hF_66; replace hF_66 : RepV _ _ _ _ _ := hF_66
      replace S1 := S1.put (by decide : 8 < 28) (v_67)
      refine fill_nil S1 ?_; clear S1; intro a_ S1
      have S0 := S.defers; replace S := S1; clear S1
      refine w_go S rfl (op_indexAddr S rfl ty23 rfl rfl rfl hF_66 rfl ey_16 ?_)
      clear S; intro a p_68 R_69 H_70 S
      refine wpList_nil ?_
      exact RPost.mk_ S rfl S0 ⟨_, rfl, R_69, H_70⟩ (hR.below _ _ (Below.refl _ _))
    refine RunAll.cons (isI .u8 y_16) [(isEl (.int .u8) (Kx K w.heap.size [some b_1]) y_16, 9)] rfl rfl ?_ ?_
    · intro W_ hW
      have S1 := S
      rintro _ ⟨p_73, rfl, R_74, H_75⟩
      replace S1 := S1.put (by decide : 9 < 28) (.pointer (some p_73))
      refine fill_nil S1 ?_; clear S1; intro a_ S1
      have S0 := S.defers; replace S := S1; clear S1
      refine w_go S rfl (op_load (t := (.int .u8)) (x := y_16) S rfl ty5 rfl rfl rfl R_74 ?_)
      clear S; intro a v_76 R_77 S
      obtain ⟨rfl, GR_77⟩ := RepV.int R_77
      refine wpList_nil ?_
      exact RPost.mk_ S rfl S0 ⟨rfl, GR_77⟩ (hR.below _ _ (Below.refl _ _))
    refine RunAll.cons (isRep (.sl (.int .u8)) (Kx K w.heap.size [some b_1]) x0) [] rfl rfl ?_ ?_
    · intro W_ hW
      have S1 := S
      refine fill_nil S1 ?_; clear S1; intro a_ S1
      replace R0 := R0.lv (hR.lv _ _ hW)
      have S0 := S.defers; replace S := S1; clear S1
      refine wl_pure (l' := [(11, v0), (2, .pointer (some (⟨b_1, 0, .none⟩ : Addr))), (0, v0)]) S tys tys_ok 1 (by kernel_rfl) ?_; clear S; intro a S
      refine wpList_nil ?_
      exact RPost.mk_ S rfl S0 R0 (hR.below _ _ (Below.refl _ _))
    refine RunAll.cons (isEl (.int .u8) (Kx K w.heap.size [some b_1]) y_22) [(isRep (.sl (.int .u8)) (Kx K w.heap.size [some b_1]) x0, 11)] rfl rfl ?_ ?_
    · intro W_ hW
      have S1 := S
      intro v_79 hF_78; replace hF_78 : RepV _ _ _ _ _ := hF_78
      replace S1 := S1.put (by decide : 11 < 28) (v_79)
      refine fill_nil S1 ?_; clear S1; intro a_ S1
      have S0 := S.defers; replace S := S1; clear S1
      refine w_go S rfl (op_indexAddr S rfl ty23 rfl rfl rfl hF_78 rfl ey_22 ?_)
      clear S; intro a p_80 R_81 H_82 S
      refine wpList_nil ?_
      exact RPost.mk_ S rfl S0 ⟨_, rfl, R_81, H_82⟩ (hR.below _ _ (Below.refl _ _))
    refine RunAll.cons (isI .u8 y_22) [(isEl (.int .u8) (Kx K w.heap.size [some b_1]) y_22, 12)] rfl rfl ?_ ?_
    · intro W_ hW
      have S1 := S
      rintro _ ⟨p_85, rfl, R_86, H_87⟩
      replace S1 := S1.put (by decide : 12 < 28) (.pointer (some p_85))
      refine fill_nil S1 ?_; clear S1; intro a_ S1
      have S0 := S.defers; replace S := S1; clear S1
      refine w_go S rfl (op_load (t := (.int .u8)) (x := y_22) S rfl ty5 rfl rfl rfl R_86 ?_)
      clear S; intro a v_88 R_89 S
      obtain ⟨rfl, GR_89⟩ := RepV.int R_89
      refine wpList_nil ?_
      exact RPost.mk_ S rfl S0 ⟨rfl, GR_89⟩ (hR.below _ _ (Below.refl _ _))
    refine RunAll.cons (isRep (.sl (.int .u8)) (Kx K w.heap.size [some b_1]) x0) [] rfl rfl ?_ ?_
    · intro W_ hW
      have S1 := S
      refine fill_nil S1 ?_; clear S1; intro a_ S1
      replace R0 := R0.lv (hR.lv _ _ hW)
      have S0 := S.defers; replace S := S1; clear S1
      refine wl_pure (l' := [(14, v0), (2, .pointer (some (⟨b_1, 0, .none⟩ : Addr))), (0, v0)]) S tys tys_ok 1 (by kernel_rfl) ?_; clear S; intro a S
      refine wpList_nil ?_
      exact RPost.mk_ S rfl S0 R0 (hR.below _ _ (Below.refl _ _))
    refine RunAll.cons (isEl (.int .u8) (Kx K w.heap.size [some b_1]) y_28) [(isRep (.sl (.int .u8)) (Kx K w.heap.size [some b_1]) x0, 14)] rfl rfl ?_ ?_
    · intro W_ hW
      have S1 := S
      intro v_91 hF_90; replace hF_90 : RepV _ _ _ _ _ := hF_90
      replace S1 := S1.put (by decide : 14 < 28) (v_91)
      refine fill_nil S1 ?_; clear S1; intro a_ S1
      have S0 := S.defers; replace S := S1; clear S1
      refine w_go S rfl (op_indexAddr S rfl ty23 rfl rfl rfl hF_90 rfl ey_28 ?_)
      clear S; intro a p_92 R_93 H_94 S
      refine wpList_nil ?_
      exact RPost.mk_ S rfl S0 ⟨_, rfl, R_93, H_94⟩ (hR.below _ _ (Below.refl _ _))
    refine RunAll.cons (isI .u8 y_28) [(isEl (.int .u8) (Kx K w.heap.size [some b_1]) y_28, 15)] rfl rfl ?_ ?_
    · intro W_ hW
      have S1 := S
      rintro _ ⟨p_97, rfl, R_98, H_99⟩
      replace S1 := S1.put (by decide : 15 < 28) (.pointer (some p_97))
      refine fill_nil S1 ?_; clear S1; intro a_ S1
      have S0 := S.defers; replace S := S1; clear S1
      refine w_go S rfl (op_load (t := (.int .u8)) (x := y_28) S rfl ty5 rfl rfl rfl R_98 ?_)
      clear S; intro a v_100 R_101 S
      obtain ⟨rfl, GR_101⟩ := RepV.int R_101
      refine wpList_nil ?_
      exact RPost.mk_ S rfl S0 ⟨rfl, GR_101⟩ (hR.below _ _ (Below.refl _ _))
    refine RunAll.cons (isI .u8 (bitsI .and .u8 y_28 64)) [(isI .u8 y_28, 16)] rfl rfl ?_ ?_
    · intro W_ hW
      have S1 := S
      rintro _ ⟨rfl, hF_102⟩
      replace S1 := S1.put (by decide : 16 < 28) (.int .u8 y_28)
      refine fill_nil S1 ?_; clear S1; intro a_ S1
      have S0 := S.defers; replace S := S1; clear S1
      refine wl_pure (l' := [(17, .int .u8 (bitsI .and .u8 y_28 64)), (16, .int .u8 y_28), (2, .pointer (some (⟨b_1, 0, .none⟩ : Addr))), (0, v0)]) S tys tys_ok 1 (by kernel_rfl) ?_; clear S; intro a S
      refine wpList_nil ?_
      exact RPost.mk_ S rfl S0 ⟨rfl, inR_bits⟩ (hR.below _ _ (Below.refl _ _))
    refine RunAll.cons (eqv (.bool ((bitsI .and .u8 y_28 64) != 0))) [(isI .u8 (bitsI .and .u8 y_28 64), 17)] rfl rfl ?_ ?_
    · intro W_ hW
      have S1 := S
      rintro _ ⟨rfl, hF_104⟩
      replace S1 := S1.put (by decide : 17 < 28) (.int .u8 (bitsI .and .u8 y_28 64))
      refine fill_nil S1 ?_; clear S1; intro a_ S1
      have S0 := S.defers; replace S := S1; clear S1
      refine wl_pure (l' := [(18, .bool ((bitsI .and .u8 y_28 64) != 0)), (17, .int .u8 (bitsI .and .u8 y_28 64)), (2, .pointer (some (⟨b_1, 0, .none⟩ : Addr))), (0, v0)]) S tys tys_ok 1 (by kernel_rfl) ?_; clear S; intro a S
      refine wpList_nil ?_
      exact RPost.mk_ S rfl S0 rfl (hR.below _ _ (Below.refl _ _))
    refine RunAll.cons (isRep (.sl (.int .u8)) (Kx K w.heap.size [some b_1]) x0) [] rfl rfl ?_ ?_
    · intro W_ hW
      have S1 := S
      refine fill_nil S1 ?_; clear S1; intro a_ S1
      replace R0 := R0.lv (hR.lv _ _ hW)
      have S0 := S.defers; replace S := S1; clear S1
      refine wl_pure (l' := [(19, v0), (2, .pointer (some (⟨b_1, 0, .none⟩ : Addr))), (0, v0)]) S tys tys_ok 1 (by kernel_rfl) ?_; clear S; intro a S
      refine wpList_nil ?_
      exact RPost.mk_ S rfl S0 R0 (hR.below _ _ (Below.refl _ _))
    refine RunAll.cons (isEl (.int .u8) (Kx K w.heap.size [some b_1]) y_34) [(isRep (.sl (.int .u8)) (Kx K w.heap.size [some b_1]) x0, 19)] rfl rfl ?_ ?_
    · intro W_ hW
      have S1 := S
      intro v_107 hF_106; replace hF_106 : RepV _ _ _ _ _ := hF_106
      replace S1 := S1.put (by decide : 19 < 28) (v_107)
      refine fill_nil S1 ?_; clear S1; intro a_ S1
      have S0 := S.defers; replace S := S1; clear S1
      refine w_go S rfl (op_indexAddr S rfl ty23 rfl rfl rfl hF_106 rfl ey_34 ?_)
      clear S; intro a p_108 R_109 H_110 S
      refine wpList_nil ?_
      exact RPost.mk_ S rfl S0 ⟨_, rfl, R_109, H_110⟩ (hR.below _ _ (Below.refl _ _))
    refine RunAll.cons (isI .u8 y_34) [(isEl (.int .u8) (Kx K w.heap.size [some b_1]) y_34, 20)] rfl rfl ?_ ?_
    · intro W_ hW
      have S1 := S
      rintro _ ⟨p_113, rfl, R_114, H_115⟩
      replace S1 := S1.put (by decide : 20 < 28) (.pointer (some p_113))
      refine fill_nil S1 ?_; clear S1; intro a_ S1
      have S0 := S.defers; replace S := S1; clear S1
      refine w_go S rfl (op_load (t := (.int .u8)) (x := y_34) S rfl ty5 rfl rfl rfl R_114 ?_)
      clear S; intro a v_116 R_117 S
      obtain ⟨rfl, GR_117⟩ := RepV.int R_117
      refine wpList_nil ?_
      exact RPost.mk_ S rfl S0 ⟨rfl, GR_117⟩ (hR.below _ _ (Below.refl _ _))
    refine RunAll.cons (isI .u8 (bitsI .and .u8 y_34 32)) [(isI .u8 y_34, 21)] rfl rfl ?_ ?_
    · intro W_ hW
      have S1 := S
      rintro _ ⟨rfl, hF_118⟩
      replace S1 := S1.put (by decide : 21 < 28) (.int .u8 y_34)
      refine fill_nil S1 ?_; clear S1; intro a_ S1
      have S0 := S.defers; replace S := S1; clear S1
      refine wl_pure (l' := [(22, .int .u8 (bitsI .and .u8 y_34 32)), (21, .int .u8 y_34), (2, .pointer (some (⟨b_1, 0, .none⟩ : Addr))), (0, v0)]) S tys tys_ok 1 (by kernel_rfl) ?_; clear S; intro a S
      refine wpList_nil ?_
      exact RPost.mk_ S rfl S0 ⟨rfl, inR_bits⟩ (hR.below _ _ (Below.refl _ _))
    refine RunAll.cons (eqv (.bool ((bitsI .and .u8 y_34 32) != 0))) [(isI .u8 (bitsI .and .u8 y_34 32), 22)] rfl rfl ?_ ?_
    · intro W_ hW
      have S1 := S
      rintro _ ⟨rfl, hF_120⟩
      replace S1 := S1.put (by decide : 22 < 28) (.int .u8 (bitsI .and .u8 y_34 32))
      refine fill_nil S1 ?_; clear S1; intro a_ S1
      have S0 := S.defers; replace S := S1; clear S1
      refine wl_pure (l' := [(23, .bool ((bitsI .and .u8 y_34 32) != 0)), (22, .int .u8 (bitsI .and .u8 y_34 32)), (2, .pointer (some (⟨b_1, 0, .none⟩ : Addr))), (0, v0)]) S tys tys_ok 1 (by kernel_rfl) ?_; clear S; intro a S
      refine wpList_nil ?_
      exact RPost.mk_ S rfl S0 rfl (hR.below _ _ (Below.refl _ _))
    refine RunAll.cons (isRep (.sl (.int .u8)) (Kx K w.heap.size [some b_1]) x0) [] rfl rfl ?_ ?_
    · intro W_ hW
      have S1 := S
      refine fill_nil S1 ?_; clear S1; intro a_ S1
      replace R0 := R0.lv (hR.lv _ _ hW)
      have S0 := S.defers; replace S := S1; clear S1
      refine wl_pure (l' := [(24, v0), (2, .pointer (some (⟨b_1, 0, .none⟩ : Addr))), (0, v0)]) S tys tys_ok 1 (by kernel_rfl) ?_; clear S; intro a S
      refine wpList_nil ?_
      exact RPost.mk_ S rfl S0 R0 (hR.below _ _ (Below.refl _ _))
    refine RunAll.cons (isEl (.int .u8) (Kx K w.heap.size [some b_1]) y_40) [(isRep (.sl (.int .u8)) (Kx K w.heap.size [some b_1]) x0, 24)] rfl rfl ?_ ?_
    · intro W_ hW
      have S1 := S
      intro v_123 hF_122; replace hF_122 : RepV _ _ _ _ _ := hF_122
      replace S1 := S1.put (by decide : 24 < 28) (v_123)
      refine fill_nil S1 ?_; clear S1; intro a_ S1
      have S0 := S.defers; replace S := S1; clear S1
      refine w_go S rfl (op_indexAddr S rfl ty23 rfl rfl rfl hF_122 rfl ey_40 ?_)
      clear S; intro a p_124 R_125 H_126 S
      refine wpList_nil ?_
      exact RPost.mk_ S rfl S0 ⟨_, rfl, R_125, H_126⟩ (hR.below _ _ (Below.refl _ _))
    refine RunAll.cons (isI .u8 y_40) [(isEl (.int .u8) (Kx K w.heap.size [some b_1]) y_40, 25)] rfl rfl ?_ ?_
    · intro W_ hW
      have S1 := S
      rintro _ ⟨p_129, rfl, R_130, H_131⟩
      replace S1 := S1.put (by decide : 25 < 28) (.pointer (some p_129))
      refine fill_nil S1 ?_; clear S1; intro a_ S1
      have S0 := S.defers; replace S := S1; clear S1
      refine w_go S rfl (op_load (t := (.int .u8)) (x := y_40) S rfl ty5 rfl rfl rfl R_130 ?_)
      clear S; intro a v_132 R_133 S
      obtain ⟨rfl, GR_133⟩ := RepV.int R_133
      refine wpList_nil ?_
      exact RPost.mk_ S rfl S0 ⟨rfl, GR_133⟩ (hR.below _ _ (Below.refl _ _))
    refine RunAll.cons (isRep (.st (.pair (.int .u16) (.pair (.int .u8) (.pair (.int .u8) (.pair (.int .u8) (.pair .bool (.pair .bool (.int .u8)))))))) (Kx K w.heap.size [some b_1]) (t_5, y_10, y_16, y_22, ((bitsI .and .u8 y_28 64) != 0), ((bitsI .and .u8 y_34 32) != 0), y_40)) [(isI .u16 t_5, 4), (isI .u8 y_10, 7), (isI .u8 y_16, 10), (isI .u8 y_22, 13), (eqv (.bool ((bitsI .and .u8 y_28 64) != 0)), 18), (eqv (.bool ((bitsI .and .u8 y_34 32) != 0)), 23), (isI .u8 y_40, 26)] rfl rfl ?_ ?_
    · intro W_ hW
      have S1 := S
      rintro _ ⟨rfl, hF_134⟩
      replace S1 := S1.put (by decide : 4 < 28) (.int .u16 t_5)
      rintro _ ⟨rfl, hF_136⟩
      replace S1 := S1.put (by decide : 7 < 28) (.int .u8 y_10)
      rintro _ ⟨rfl, hF_138⟩
      replace S1 := S1.put (by decide : 10 < 28) (.int .u8 y_16)
      rintro _ ⟨rfl, hF_140⟩
      replace S1 := S1.put (by decide : 13 < 28) (.int .u8 y_22)
      intro v_143 hF_142; obtain rfl : v_143 = .bool ((bitsI .and .u8 y_28 64) != 0) := hF_142
      replace S1 := S1.put (by decide : 18 < 28) (.bool ((bitsI .and .u8 y_28 64) != 0))
      intro v_145 hF_144; obtain rfl : v_145 = .bool ((bitsI .and .u8 y_34 32) != 0) := hF_144
      replace S1 := S1.put (by decide : 23 < 28) (.bool ((bitsI .and .u8 y_34 32) != 0))
      rintro _ ⟨rfl, hF_146⟩
      replace S1 := S1.put (by decide : 26 < 28) (.int .u8 y_40)
      refine fill_nil S1 ?_; clear S1; intro a_ S1
      have S0 := S.defers; replace S := S1; clear S1
      refine w_go S rfl (op_build (K := (Kx K w.heap.size [some b_1])) (f := (.pair (.int .u16) (.pair (.int .u8) (.pair (.int .u8) (.pair (.int .u8) (.pair .bool (.pair .bool (.int .u8)))))))) (z0 := (0, 0, 0, 0, false, false, 0)) (x := (t_5, y_10, y_16, y_22, ((bitsI .and .u8 y_28 64) != 0), ((bitsI .and .u8 y_34 32) != 0), y_40)) (vs := [.int .u16 t_5, .int .u8 y_10, .int .u8 y_16, .int .u8 y_22, .bool ((bitsI .and .u8 y_28 64) != 0), .bool ((bitsI .and .u8 y_34 32) != 0), .int .u8 y_40]) S _ rfl ty51 z51 (fun w K => ⟨[.int .u16 0], [.int .u8 0, .int .u8 0, .int .u8 0, .bool false, .bool false, .int .u8 0], rfl, ⟨rfl, by decide⟩, ⟨[.int .u8 0], [.int .u8 0, .int .u8 0, .bool false, .bool false, .int .u8 0], rfl, ⟨rfl, by decide⟩, ⟨[.int .u8 0], [.int .u8 0, .bool false, .bool false, .int .u8 0], rfl, ⟨rfl, by decide⟩, ⟨[.int .u8 0], [.bool false, .bool false, .int .u8 0], rfl, ⟨rfl, by decide⟩, ⟨[.bool false], [.bool false, .int .u8 0], rfl, rfl, ⟨[.bool false], [.int .u8 0], rfl, rfl, ⟨rfl, by decide⟩⟩⟩⟩⟩⟩⟩) rfl rfl rfl [(0, .int .u16 t_5), (1, .int .u8 y_10), (2, .int .u8 y_16), (3, .int .u8 y_22), (4, .bool ((bitsI .and .u8 y_28 64) != 0)), (5, .bool ((bitsI .and .u8 y_34 32) != 0)), (6, .int .u8 y_40)] rfl ⟨_, (RepV.mkInt hF_134), rfl, rfl, ⟨_, (RepV.mkInt hF_136), rfl, rfl, ⟨_, (RepV.mkInt hF_138), rfl, rfl, ⟨_, (RepV.mkInt hF_140), rfl, rfl, ⟨_, RepV.mkBool, rfl, rfl, ⟨_, RepV.mkBool, rfl, rfl, ⟨_, (RepV.mkInt hF_146), rfl, rfl, rfl⟩⟩⟩⟩⟩⟩⟩ ?_)
      clear S; intro a v_148 R_149 S
      refine wpList_nil ?_
      exact RPost.mk_ S rfl S0 R_149 (hR.below _ _ (Below.refl _ _))
    refine RunAll.cons (isBx (.st (.pair (.int .u16) (.pair (.int .u8) (.pair (.int .u8) (.pair (.int .u8) (.pair .bool (.pair .bool (.int .u8)))))))) 51 (Kx K w.heap.size [some b_1]) b_1 (t_5, y_10, y_16, y_22, ((bitsI .and .u8 y_28 64) != 0), ((bitsI .and .u8 y_34 32) != 0), y_40)) [(isRep (.st (.pair (.int .u16) (.pair (.int .u8) (.pair (.int .u8) (.pair (.int .u8) (.pair .bool (.pair .bool (.int .u8)))))))) (Kx K w.heap.size [some b_1]) (t_5, y_10, y_16, y_22, ((bitsI .and .u8 y_28 64) != 0), ((bitsI .and .u8 y_34 32) != 0), y_40), 27)] rfl rfl ?_ ?_
    · intro W_ hW
      have S1 := S
      intro v_151 hF_150; replace hF_150 : RepV _ _ _ _ _ := hF_150
      replace S1 := S1.put (by decide : 27 < 28) (v_151)
      refine fill_nil S1 ?_; clear S1; intro a_ S1
      obtain ⟨xo_152, B_153⟩ := hW.some_ ⟨_, B_2⟩
      have S0 := S.defers; replace S := S1; clear S1
      refine w_go S rfl (op_store (t' := (.st (.pair (.int .u16) (.pair (.int .u8) (.pair (.int .u8) (.pair (.int .u8) (.pair .bool (.pair .bool (.int .u8))))))))) S rfl rfl ty51 rfl rfl rfl B_153 (by simp) Ln.whole hF_150 ?_)
      intro w_154 hw_155 B_
      replace B_153 : Bx (.st (.pair (.int .u16) (.pair (.int .u8) (.pair (.int .u8) (.pair (.int .u8) (.pair .bool (.pair .bool (.int .u8)))))))) 51 w_154 (Kx K w.heap.size [some b_1]) b_1 (t_5, y_10, y_16, y_22, ((bitsI .and .u8 y_28 64) != 0), ((bitsI .and .u8 y_34 32) != 0), y_40) := B_; clear B_
      refine wpList_nil ?_
      exact RPost.mkN S S0 B_153 (Sto.of_wrote hw_155 B_153)
    exact trivial
  intro w_156 hb_157
  refine EndE.some_ rfl ?_
  intro v_159 hF_158; replace hF_158 : RepV _ _ _ _ _ := hF_158
  replace S := S.put (by decide : 3 < 28) (v_159)
  refine EndE.some_ rfl ?_
  rintro _ ⟨rfl, hF_160⟩
  replace S := S.put (by decide : 4 < 28) (.int .u16 t_5)
  refine EndE.some_ rfl ?_
  intro v_163 hF_162; replace hF_162 : RepV _ _ _ _ _ := hF_162
  replace S := S.put (by decide : 5 < 28) (v_163)
  refine EndE.some_ rfl ?_
  rintro _ ⟨p_166, rfl, R_167, H_168⟩
  replace S := S.put (by decide : 6 < 28) (.pointer (some p_166))
  refine EndE.some_ rfl ?_
  rintro _ ⟨rfl, hF_169⟩
  replace S := S.put (by decide : 7 < 28) (.int .u8 y_10)
  refine EndE.some_ rfl ?_
  intro v_172 hF_171; replace hF_171 : RepV _ _ _ _ _ := hF_171
  replace S := S.put (by decide : 8 < 28) (v_172)
  refine EndE.some_ rfl ?_
  rintro _ ⟨p_175, rfl, R_176, H_177⟩
  replace S := S.put (by decide : 9 < 28) (.pointer (some p_175))
  refine EndE.some_ rfl ?_
  rintro _ ⟨rfl, hF_178⟩
  replace S := S.put (by decide : 10 < 28) (.int .u8 y_16)
  refine EndE.some_ rfl ?_
  intro v_181 hF_180; replace hF_180 : RepV _ _ _ _ _ := hF_180
  replace S := S.put (by decide : 11 < 28) (v_181)
  refine EndE.some_ rfl ?_
  rintro _ ⟨p_184, rfl, R_185, H_186⟩
  replace S := S.put (by decide : 12 < 28) (.pointer (some p_184))
  refine EndE.some_ rfl ?_
  rintro _ ⟨rfl, hF_187⟩
  replace S := S.put (by decide : 13 < 28) (.int .u8 y_22)
  refine EndE.some_ rfl ?_
  intro v_190 hF_189; replace hF_189 : RepV _ _ _ _ _ := hF_189
  replace S := S.put (by decide : 14 < 28) (v_190)
  refine EndE.some_ rfl ?_
  rintro _ ⟨p_193, rfl, R_194, H_195⟩
  replace S := S.put (by decide : 15 < 28) (.pointer (some p_193))
  refine EndE.some_ rfl ?_
  rintro _ ⟨rfl, hF_196⟩
  replace S := S.put (by decide : 16 < 28) (.int .u8 y_28)
  refine EndE.some_ rfl ?_
  rintro _ ⟨rfl, hF_198⟩
  replace S := S.put (by decide : 17 < 28) (.int .u8 (bitsI .and .u8 y_28 64))
  refine EndE.some_ rfl ?_
  intro v_201 hF_200; obtain rfl : v_201 = .bool ((bitsI .and .u8 y_28 64) != 0) := hF_200
  replace S := S.put (by decide : 18 < 28) (.bool ((bitsI .and .u8 y_28 64) != 0))
  refine EndE.some_ rfl ?_
  intro v_203 hF_202; replace hF_202 : RepV _ _ _ _ _ := hF_202
  replace S := S.put (by decide : 19 < 28) (v_203)
  refine EndE.some_ rfl ?_
  rintro _ ⟨p_206, rfl, R_207, H_208⟩
  replace S := S.put (by decide : 20 < 28) (.pointer (some p_206))
  refine EndE.some_ rfl ?_
  rintro _ ⟨rfl, hF_209⟩
  replace S := S.put (by decide : 21 < 28) (.int .u8 y_34)
  refine EndE.some_ rfl ?_
  rintro _ ⟨rfl, hF_211⟩
  replace S := S.put (by decide : 22 < 28) (.int .u8 (bitsI .and .u8 y_34 32))
  refine EndE.some_ rfl ?_
  intro v_214 hF_213; obtain rfl : v_214 = .bool ((bitsI .and .u8 y_34 32) != 0) := hF_213
  replace S := S.put (by decide : 23 < 28) (.bool ((bitsI .and .u8 y_34 32) != 0))
  refine EndE.some_ rfl ?_
  intro v_216 hF_215; replace hF_215 : RepV _ _ _ _ _ := hF_215
  replace S := S.put (by decide : 24 < 28) (v_216)
  refine EndE.some_ rfl ?_
  rintro _ ⟨p_219, rfl, R_220, H_221⟩
  replace S := S.put (by decide : 25 < 28) (.pointer (some p_219))
  refine EndE.some_ rfl ?_
  rintro _ ⟨rfl, hF_222⟩
  replace S := S.put (by decide : 26 < 28) (.int .u8 y_40)
  refine EndE.some_ rfl ?_
  intro v_225 hF_224; replace hF_224 : RepV _ _ _ _ _ := hF_224
  replace S := S.put (by decide : 27 < 28) (v_225)
  refine EndE.none_ rfl ?_; intro Bnew_; replace Bnew_ : Bx _ _ _ _ _ _ := Bnew_
  refine endE_nil S ?_; clear S; intro a S
  replace R0 := R0.lv (hR.lv _ _ hb_157)
  replace B_2 := Bnew_; clear Bnew_
  replace W := Sto.wd W hb_157 (by simp)
  refine then_n ?_
  replace S := S.sub (l' := [(2, .pointer (some (⟨b_1, 0, .none⟩ : Addr)))]) (by exact ⟨rfl, trivial⟩)
  refine wp_ret ?_
  obtain ⟨v_226, hr_227, R_228⟩ := res_cell (P := Try.prog) (T := 51) (t := (.st (.pair (.int .u16) (.pair (.int .u8) (.pair (.int .u8) (.pair (.int .u8) (.pair .bool (.pair .bool (.int .u8))))))))) (x := (t_5, y_10, y_16, y_22, ((bitsI .and .u8 y_28 64) != 0), ((bitsI .and .u8 y_34 32) != 0), y_40)) S (s := 2) rfl ty51 B_2.at_
  obtain rfl := Option.some.inj h
  exact b_res1 S rfl hr_227 ⟨_, rfl, R_228.out, W.below⟩
theorem cb45 : callB Try.prog 45 = true := by kernel_rfl
def p44 (n : Nat) (x0 : Sl (Int)) (x1 : Int) : Option ((Int × Int × Int × Int × Bool × Bool × Int) × (Int)) :=
  if ((lenI x0) != x1) then (some ((0, 0, 0, 0, false, false, 0), 5)) else (p45 n x0).bind fun t_17 => (p18 n t_17).bind fun t_30 => (if (t_30.2 != 0) = false then (p55 n t_30.1 x0).bind fun t_38 => some (!t_38) else some true).bind fun q_37 => if q_37 then (some ((0, 0, 0, 0, false, false, 0), 4)) else some (t_17, 0)
set_option maxHeartbeats 4000000 in
set_option maxRecDepth 100000 in
/-- plugboard/descriptors.decode[plugboard/descriptors.Configuration] -/
theorem c44 (K : Nat → Prop) (n : Nat) (w : World) (x0 : Sl (Int)) (v0 : Value) (R0 : RepV (.sl (.int .u8)) w K v0 x0) (x1 : Int) (G1 : InR .i64 x1) {r : (Int × Int × Int × Int × Bool × Bool × Int) × (Int)} (h : p44 n x0 x1 = some r) :
    Calls Try.prog 44 #[v0, .int .i64 x1, .func (.func 45) #[] #[], .func (.func 18) #[] #[]] w (Ret2 (.st (.pair (.int .u16) (.pair (.int .u8) (.pair (.int .u8) (.pair (.int .u8) (.pair .bool (.pair .bool (.int .u8)))))))) (.int .i64) w (Kx K w.heap.size []) r) := by
  refine enter (args := [v0, .int .i64 x1, .func (.func 45) #[] #[], .func (.func 18) #[] #[]]) Try.func44 rfl 38 rfl rfl fun a S => ?_
  have W := Wd.start w
  replace R0 := R0.arg
  unfold p44 at h
  replace S : St 38 a [(0, v0), (1, .int .i64 x1), (2, .func (.func 45) #[] #[]), (3, .func (.func 18) #[] #[])] := S
  refine wp_seq ?_
  refine wp_region_lit ?_
  refine w_go S rfl (op_alloc (K := K) (n := w.heap.size) (L := []) (t := (.st (.pair (.int .u16) (.pair (.int .u8) (.pair (.int .u8) (.pair (.int .u8) (.pair .bool (.pair .bool (.int .u8))))))))) (y := (0, 0, 0, 0, false, false, 0)) S rfl rfl rfl _ z51 (fun w K => ⟨[.int .u16 0], [.int .u8 0, .int .u8 0, .int .u8 0, .bool false, .bool false, .int .u8 0], rfl, ⟨rfl, by decide⟩, ⟨[.int .u8 0], [.int .u8 0, .int .u8 0, .bool false, .bool false, .int .u8 0], rfl, ⟨rfl, by decide⟩, ⟨[.int .u8 0], [.int .u8 0, .bool false, .bool false, .int .u8 0], rfl, ⟨rfl, by decide⟩, ⟨[.int .u8 0], [.bool false, .bool false, .int .u8 0], rfl, ⟨rfl, by decide⟩, ⟨[.bool false], [.bool false, .int .u8 0], rfl, rfl, ⟨[.bool false], [.int .u8 0], rfl, rfl, ⟨rfl, by decide⟩⟩⟩⟩⟩⟩⟩) ?_)
  clear S; intro a w_3 b_1 hb_4 B_2 S
  replace R0 := R0.box hb_4
  replace W := W.box hb_4
  refine wl_pure (l' := [(9, .int .i64 0), (8, .pointer (some (⟨b_1, 0, .none⟩ : Addr))), (0, v0), (1, .int .i64 x1), (2, .func (.func 45) #[] #[]), (3, .func (.func 18) #[] #[])]) S tys tys_ok 1 (by kernel_rfl) ?_
  clear S; intro a S
  refine wpList_nil ?_
  refine then_n ?_
  replace S := S.sub (l' := [(8, .pointer (some (⟨b_1, 0, .none⟩ : Addr))), (0, v0), (1, .int .i64 x1), (2, .func (.func 45) #[] #[]), (3, .func (.func 18) #[] #[])]) (by exact ⟨rfl, rfl, rfl, rfl, rfl, trivial⟩)
  refine wp_seq ?_
  refine wp_region_lit ?_
  refine w_go S rfl (op_alloc (K := K) (n := w.heap.size) (L := [some b_1]) (t := (.st (.pair (.int .u16) (.pair (.int .u8) (.pair (.int .u8) (.pair (.int .u8) (.pair .bool (.pair .bool (.int .u8))))))))) (y := (0, 0, 0, 0, false, false, 0)) S rfl rfl rfl _ z51 (fun w K => ⟨[.int .u16 0], [.int .u8 0, .int .u8 0, .int .u8 0, .bool false, .bool false, .int .u8 0], rfl, ⟨rfl, by decide⟩, ⟨[.int .u8 0], [.int .u8 0, .int .u8 0, .bool false, .bool false, .int .u8 0], rfl, ⟨rfl, by decide⟩, ⟨[.int .u8 0], [.int .u8 0, .bool false, .bool false, .int .u8 0], rfl, ⟨rfl, by decide⟩, ⟨[.int .u8 0], [.bool false, .bool false, .int .u8 0], rfl, ⟨rfl, by decide⟩, ⟨[.bool false], [.bool false, .int .u8 0], rfl, rfl, ⟨[.bool false], [.int .u8 0], rfl, rfl, ⟨rfl, by decide⟩⟩⟩⟩⟩⟩⟩) ?_)
  clear S; intro a w_7 b_5 hb_8 B_6 S
  replace R0 := R0.box hb_8
  replace B_2 := B_2.box hb_8
  replace W := W.box hb_8
  refine wpList_nil ?_
  refine then_n ?_
  refine wp_seq ?_
  refine wp_seq ?_
  refine wp_region_lit ?_
  refine wl_pure (l' := [(14, v0), (10, .pointer (some (⟨b_5, 0, .none⟩ : Addr))), (8, .pointer (some (⟨b_1, 0, .none⟩ : Addr))), (0, v0), (1, .int .i64 x1), (2, .func (.func 45) #[] #[]), (3, .func (.func 18) #[] #[])]) S tys tys_ok 1 (by kernel_rfl) ?_
  clear S; intro a S
  refine w_go S rfl (op_len (K := _) S rfl ty23 rfl rfl rfl R0 ?_)
  clear S; intro a G_9 S
  refine wl_pure (l' := [(17, .bool ((lenI x0) != x1)), (16, .int .i64 x1), (15, .int .i64 (lenI x0)), (14, v0), (10, .pointer (some (⟨b_5, 0, .none⟩ : Addr))), (8, .pointer (some (⟨b_1, 0, .none⟩ : Addr))), (0, v0), (1, .int .i64 x1), (2, .func (.func 45) #[] #[]), (3, .func (.func 18) #[] #[])]) S tys tys_ok 2 (by kernel_rfl) ?_
  clear S; intro a S
  refine wpList_nil ?_
  refine then_n ?_
  replace S := S.sub (l' := [(17, .bool ((lenI x0) != x1)), (10, .pointer (some (⟨b_5, 0, .none⟩ : Addr))), (8, .pointer (some (⟨b_1, 0, .none⟩ : Addr))), (0, v0), (2, .func (.func 45) #[] #[]), (3, .func (.func 18) #[] #[])]) (by exact ⟨rfl, rfl, rfl, rfl, rfl, rfl, trivial⟩)
  refine wp_cond_split (S.eval (show ev _ _ = some (.bool ((lenI x0) != x1)) from rfl)) ?_ ?_
  · intro hc
    rw [if_pos hc] at h
    refine wp_seq ?_
    refine wp_region_lit ?_
    refine w_go S rfl (op_load (t := (.st (.pair (.int .u16) (.pair (.int .u8) (.pair (.int .u8) (.pair (.int .u8) (.pair .bool (.pair .bool (.int .u8))))))))) (x := (0, 0, 0, 0, false, false, 0)) S rfl ty51 rfl rfl rfl B_6.at_ ?_)
    clear S; intro a v_10 R_11 S
    refine w_go S rfl (op_store (t' := (.st (.pair (.int .u16) (.pair (.int .u8) (.pair (.int .u8) (.pair (.int .u8) (.pair .bool (.pair .bool (.int .u8))))))))) S rfl rfl ty51 rfl rfl rfl B_2 (by simp) Ln.whole R_11 ?_)
    intro w_12 hw_13 B_
    replace R0 := R0.wrote hw_13 (by simp)
    replace R_11 := R_11.wrote hw_13 (by simp)
    replace B_6 := B_6.wrote hw_13 (by simp) (W.bne (p := 0) (q := 1) (by decide) rfl rfl)
    replace W := W.wrote hw_13 (by simp)
    replace B_2 : Bx (.st (.pair (.int .u16) (.pair (.int .u8) (.pair (.int .u8) (.pair (.int .u8) (.pair .bool (.pair .bool (.int .u8)))))))) 51 w_12 (Kx K w.heap.size [some b_5, some b_1]) b_1 (0, 0, 0, 0, false, false, 0) := B_; clear B_
    refine wl_pure (l' := [(9, .int .i64 5), (18, v_10), (17, .bool ((lenI x0) != x1)), (10, .pointer (some (⟨b_5, 0, .none⟩ : Addr))), (8, .pointer (some (⟨b_1, 0, .none⟩ : Addr))), (0, v0), (2, .func (.func 45) #[] #[]), (3, .func (.func 18) #[] #[])]) S tys tys_ok 1 (by kernel_rfl) ?_
    clear S; intro a S
    refine wpList_nil ?_
    refine then_n ?_
    replace S := S.sub (l' := [(9, .int .i64 5), (8, .pointer (some (⟨b_1, 0, .none⟩ : Addr)))]) (by exact ⟨rfl, rfl, trivial⟩)
    refine wp_ret ?_
    refine then_r ?_
    obtain ⟨v_14, hr_15, R_16⟩ := res_cell (P := Try.prog) (T := 51) (t := (.st (.pair (.int .u16) (.pair (.int .u8) (.pair (.int .u8) (.pair (.int .u8) (.pair .bool (.pair .bool (.int .u8))))))))) (x := (0, 0, 0, 0, false, false, 0)) S (s := 8) rfl ty51 B_2.at_
    obtain rfl := Option.some.inj h
    exact b_res2 S rfl hr_15 (res_tmp S rfl) ⟨_, _, rfl, R_16.out, (RepV.mkInt (by decide)), W.below⟩
  · intro hc
    rw [if_neg (Bool.eq_false_iff.1 hc)] at h
    refine wp_skip ?_
    refine then_n ?_
    replace S := S.sub (l' := [(10, .pointer (some (⟨b_5, 0, .none⟩ : Addr))), (8, .pointer (some (⟨b_1, 0, .none⟩ : Addr))), (0, v0), (2, .func (.func 45) #[] #[]), (3, .func (.func 18) #[] #[])]) (by exact ⟨rfl, rfl, rfl, rfl, rfl, trivial⟩)
    refine wp_seq ?_
    refine wp_region_lit ?_
    refine wl_pure (l' := [(20, v0), (19, .func (.func 45) #[] #[]), (10, .pointer (some (⟨b_5, 0, .none⟩ : Addr))), (8, .pointer (some (⟨b_1, 0, .none⟩ : Addr))), (0, v0), (2, .func (.func 45) #[] #[]), (3, .func (.func 18) #[] #[])]) S tys tys_ok 2 (by kernel_rfl) ?_
    clear S; intro a S
    obtain ⟨t_17, et_17, h⟩ := bindS h
    refine w_go S rfl (op_calld (vs := [v0]) S rfl rfl cb45 rfl rfl rfl (c45 (Kx K w.heap.size [some b_5, some b_1]) n w_7 x0 _ R0 et_17) ?_)
    rintro _ w_21 ⟨v_18, rfl, R_19, hb_20⟩; refine ⟨_, rfl, ?_⟩
    replace R_19 := RepV.back R_19 W
    clear S; intro a S
    replace R0 := R0.step hb_20
    replace B_2 := B_2.step hb_20
    replace B_6 := B_6.step hb_20
    replace W := W.step hb_20
    refine w_go S rfl (op_alloc (K := K) (n := w.heap.size) (L := [some b_5, some b_1]) (t := (.st (.pair (.int .u16) (.pair (.int .u8) (.pair (.int .u8) (.pair (.int .u8) (.pair .bool (.pair .bool (.int .u8))))))))) (y := (0, 0, 0, 0, false, false, 0)) S rfl rfl rfl _ z51 (fun w K => ⟨[.int .u16 0], [.int .u8 0, .int .u8 0, .int .u8 0, .bool false, .bool false, .int .u8 0], rfl, ⟨rfl, by decide⟩, ⟨[.int .u8 0], [.int .u8 0, .int .u8 0, .bool false, .bool false, .int .u8 0], rfl, ⟨rfl, by decide⟩, ⟨[.int .u8 0], [.int .u8 0, .bool false, .bool false, .int .u8 0], rfl, ⟨rfl, by decide⟩, ⟨[.int .u8 0], [.bool false, .bool false, .int .u8 0], rfl, ⟨rfl, by decide⟩, ⟨[.bool false], [.bool false, .int .u8 0], rfl, rfl, ⟨[.bool false], [.int .u8 0], rfl, rfl, ⟨rfl, by decide⟩⟩⟩⟩⟩⟩⟩) ?_)
    clear S; intro a w_24 b_22 hb_25 B_23 S
    replace R0 := R0.box hb_25
    replace R_19 := R_19.box hb_25
    replace B_2 := B_2.box hb_25
    replace B_6 := B_6.box hb_25
    replace W := W.box hb_25
    refine w_go S rfl (op_store (t' := (.st (.pair (.int .u16) (.pair (.int .u8) (.pair (.int .u8) (.pair (.int .u8) (.pair .bool (.pair .bool (.int .u8))))))))) S rfl rfl ty51 rfl rfl rfl B_23 (by simp) Ln.whole R_19 ?_)
    intro w_26 hw_27 B_
    replace R0 := R0.wrote hw_27 (by simp)
    replace R_19 := R_19.wrote hw_27 (by simp)
    replace B_2 := B_2.wrote hw_27 (by simp) (W.bne (p := 2) (q := 0) (by decide) rfl rfl)
    replace B_6 := B_6.wrote hw_27 (by simp) (W.bne (p := 1) (q := 0) (by decide) rfl rfl)
    replace W := W.wrote hw_27 (by simp)
    replace B_23 : Bx (.st (.pair (.int .u16) (.pair (.int .u8) (.pair (.int .u8) (.pair (.int .u8) (.pair .bool (.pair .bool (.int .u8)))))))) 51 w_26 (Kx K w.heap.size [some b_22, some b_5, some b_1]) b_22 t_17 := B_; clear B_
    refine wpList_nil ?_
    refine then_n ?_
    replace S := S.sub (l' := [(11, .pointer (some (⟨b_22, 0, .none⟩ : Addr))), (10, .pointer (some (⟨b_5, 0, .none⟩ : Addr))), (8, .pointer (some (⟨b_1, 0, .none⟩ : Addr))), (0, v0), (3, .func (.func 18) #[] #[])]) (by exact ⟨rfl, rfl, rfl, rfl, rfl, trivial⟩)
    refine wp_seq ?_
    refine wp_seq ?_
    refine wp_region_lit ?_
    refine wl_pure (l' := [(23, .func (.func 18) #[] #[]), (11, .pointer (some (⟨b_22, 0, .none⟩ : Addr))), (10, .pointer (some (⟨b_5, 0, .none⟩ : Addr))), (8, .pointer (some (⟨b_1, 0, .none⟩ : Addr))), (0, v0), (3, .func (.func 18) #[] #[])]) S tys tys_ok 1 (by kernel_rfl) ?_
    clear S; intro a S
    refine w_go S rfl (op_load (t := (.st (.pair (.int .u16) (.pair (.int .u8) (.pair (.int .u8) (.pair (.int .u8) (.pair .bool (.pair .bool (.int .u8))))))))) (x := t_17) S rfl ty51 rfl rfl rfl B_23.at_ ?_)
    clear S; intro a v_28 R_29 S
    obtain ⟨t_30, et_30, h⟩ := bindS h
    refine w_go S rfl (op_calld (vs := [v_28]) S rfl rfl cb18 rfl rfl rfl (c18 (Kx K w.heap.size [some b_22, some b_5, some b_1]) n w_26 t_17 _ R_29 et_30) ?_)
    rintro _ w_36 ⟨v_31, v_32, rfl, R_33, R_34, hb_35⟩; refine ⟨_, rfl, ?_⟩
    replace R_33 := RepV.back R_33 W
    replace R_34 := RepV.back R_34 W
    clear S; intro a S
    replace R0 := R0.step hb_35
    replace R_29 := R_29.step hb_35
    replace B_2 := B_2.step hb_35
    replace B_6 := B_6.step hb_35
    replace B_23 := B_23.step hb_35
    replace W := W.step hb_35
    obtain ⟨rfl, GR_34⟩ := RepV.int R_34
    refine wl_pure (l' := [(13, .int .i64 t_30.2), (12, v_31), (27, .int .i64 t_30.2), (26, v_31), (22, .tuple #[v_31, .int .i64 t_30.2]), (25, .tuple #[v_31, .int .i64 t_30.2]), (24, v_28), (23, .func (.func 18) #[] #[]), (11, .pointer (some (⟨b_22, 0, .none⟩ : Addr))), (10, .pointer (some (⟨b_5, 0, .none⟩ : Addr))), (8, .pointer (some (⟨b_1, 0, .none⟩ : Addr))), (0, v0), (3, .func (.func 18) #[] #[])]) S tys tys_ok 5 (by kernel_rfl) ?_
    clear S; intro a S
    refine wpList_nil ?_
    refine then_n ?_
    replace S := S.sub (l' := [(13, .int .i64 t_30.2), (12, v_31), (11, .pointer (some (⟨b_22, 0, .none⟩ : Addr))), (10, .pointer (some (⟨b_5, 0, .none⟩ : Addr))), (8, .pointer (some (⟨b_1, 0, .none⟩ : Addr))), (0, v0)]) (by exact ⟨rfl, rfl, rfl, rfl, rfl, rfl, trivial⟩)
    refine wp_seq ?_
    refine wp_region_lit ?_
    refine wl_pure (l' := [(30, .bool (t_30.2 != 0)), (29, .bool (t_30.2 != 0)), (28, .int .i64 t_30.2), (13, .int .i64 t_30.2), (12, v_31), (11, .pointer (some (⟨b_22, 0, .none⟩ : Addr))), (10, .pointer (some (⟨b_5, 0, .none⟩ : Addr))), (8, .pointer (some (⟨b_1, 0, .none⟩ : Addr))), (0, v0)]) S tys tys_ok 3 (by kernel_rfl) ?_
    clear S; intro a S
    obtain ⟨q_37, eq_37, h⟩ := bindS h
    refine seg 5 (fun a_ w_ => St 38 a_ [(35, .bool q_37), (11, .pointer (some (⟨b_22, 0, .none⟩ : Addr))), (10, .pointer (some (⟨b_5, 0, .none⟩ : Addr))), (8, .pointer (some (⟨b_1, 0, .none⟩ : Addr)))] ∧ Wd w w_ [some b_22, some b_5, some b_1] ∧ Bx (.st (.pair (.int .u16) (.pair (.int .u8) (.pair (.int .u8) (.pair (.int .u8) (.pair .bool (.pair .bool (.int .u8)))))))) 51 w_ (Kx K w.heap.size [some b_22, some b_5, some b_1]) b_1 (0, 0, 0, 0, false, false, 0) ∧ Bx (.st (.pair (.int .u16) (.pair (.int .u8) (.pair (.int .u8) (.pair (.int .u8) (.pair .bool (.pair .bool (.int .u8)))))))) 51 w_ (Kx K w.heap.size [some b_22, some b_5, some b_1]) b_5 (0, 0, 0, 0, false, false, 0) ∧ Bx (.st (.pair (.int .u16) (.pair (.int .u8) (.pair (.int .u8) (.pair (.int .u8) (.pair .bool (.pair .bool (.int .u8)))))))) 51 w_ (Kx K w.heap.size [some b_22, some b_5, some b_1]) b_22 t_17) ?_ ?_
    · by_cases hc : (t_30.2 != 0) = false
      · rw [if_pos hc] at eq_37; rw [hc] at S
        refine wl_pure (l' := [(32, v0), (31, v_31), (30, .bool false), (29, .bool false), (28, .int .i64 t_30.2), (13, .int .i64 t_30.2), (12, v_31), (11, .pointer (some (⟨b_22, 0, .none⟩ : Addr))), (10, .pointer (some (⟨b_5, 0, .none⟩ : Addr))), (8, .pointer (some (⟨b_1, 0, .none⟩ : Addr))), (0, v0)]) S tys tys_ok 2 (by kernel_rfl) ?_
        clear S; intro a S
        obtain ⟨t_38, et_38, eq_37⟩ := bindS eq_37
        refine w_go S rfl (op_call (vs := [v_31, v0]) S rfl cb55 rfl rfl rfl (c55 (Kx K w.heap.size [some b_22, some b_5, some b_1]) n w_36 t_30.1 _ R_33 x0 _ R0 et_38) ?_)
        rintro _ w_42 ⟨v_39, rfl, R_40, hb_41⟩; refine ⟨_, rfl, ?_⟩
        replace R_40 := RepV.back R_40 W
        clear S; intro a S
        replace R_33 := R_33.step hb_41
        replace R0 := R0.step hb_41
        replace B_2 := B_2.step hb_41
        replace B_6 := B_6.step hb_41
        replace B_23 := B_23.step hb_41
        replace W := W.step hb_41
        obtain rfl := RepV.bool R_40
        refine wl_pure (l' := [(35, .bool (!t_38)), (34, .bool (!t_38)), (33, .bool t_38), (32, v0), (31, v_31), (30, .bool false), (29, .bool false), (28, .int .i64 t_30.2), (13, .int .i64 t_30.2), (12, v_31), (11, .pointer (some (⟨b_22, 0, .none⟩ : Addr))), (10, .pointer (some (⟨b_5, 0, .none⟩ : Addr))), (8, .pointer (some (⟨b_1, 0, .none⟩ : Addr))), (0, v0)]) S tys tys_ok 2 (by kernel_rfl) ?_
        clear S; intro a S
        obtain rfl := Option.some.inj eq_37
        exact ⟨S.sub (by exact ⟨rfl, rfl, rfl, rfl, trivial⟩), W, B_2, B_6, B_23⟩
      · rw [if_neg hc] at eq_37; rw [show (t_30.2 != 0) = true from (by simpa using hc)] at S
        refine wl_pure (l' := [(35, .bool true), (34, undef), (33, undef), (32, undef), (31, undef), (30, .bool true), (29, .bool true), (28, .int .i64 t_30.2), (13, .int .i64 t_30.2), (12, v_31), (11, .pointer (some (⟨b_22, 0, .none⟩ : Addr))), (10, .pointer (some (⟨b_5, 0, .none⟩ : Addr))), (8, .pointer (some (⟨b_1, 0, .none⟩ : Addr))), (0, v0)]) S tys tys_ok 5 (by kernel_rfl) ?_
        clear S; intro a S
        obtain rfl := Option.some.inj eq_37
        exact ⟨S.sub (by exact ⟨rfl, rfl, rfl, rfl, trivial⟩), W, B_2, B_6, B_23⟩
    clear S W eq_37; rintro a w_43 ⟨S, W, B_2, B_6, B_23⟩
    refine wpList_nil ?_
    refine then_n ?_
    refine wp_cond_split (S.eval (show ev _ _ = some (.bool q_37) from rfl)) ?_ ?_
    · intro hc
      rw [if_pos hc] at h
      refine wp_seq ?_
      refine wp_region_lit ?_
      refine w_go S rfl (op_load (t := (.st (.pair (.int .u16) (.pair (.int .u8) (.pair (.int .u8) (.pair (.int .u8) (.pair .bool (.pair .bool (.int .u8))))))))) (x := (0, 0, 0, 0, false, false, 0)) S rfl ty51 rfl rfl rfl B_6.at_ ?_)
      clear S; intro a v_44 R_45 S
      refine w_go S rfl (op_store (t' := (.st (.pair (.int .u16) (.pair (.int .u8) (.pair (.int .u8) (.pair (.int .u8) (.pair .bool (.pair .bool (.int .u8))))))))) S rfl rfl ty51 rfl rfl rfl B_2 (by simp) Ln.whole R_45 ?_)
      intro w_46 hw_47 B_
      replace R_45 := R_45.wrote hw_47 (by simp)
      replace B_6 := B_6.wrote hw_47 (by simp) (W.bne (p := 1) (q := 2) (by decide) rfl rfl)
      replace B_23 := B_23.wrote hw_47 (by simp) (W.bne (p := 0) (q := 2) (by decide) rfl rfl)
      replace W := W.wrote hw_47 (by simp)
      replace B_2 : Bx (.st (.pair (.int .u16) (.pair (.int .u8) (.pair (.int .u8) (.pair (.int .u8) (.pair .bool (.pair .bool (.int .u8)))))))) 51 w_46 (Kx K w.heap.size [some b_22, some b_5, some b_1]) b_1 (0, 0, 0, 0, false, false, 0) := B_; clear B_
      refine wl_pure (l' := [(9, .int .i64 4), (36, v_44), (35, .bool q_37), (11, .pointer (some (⟨b_22, 0, .none⟩ : Addr))), (10, .pointer (some (⟨b_5, 0, .none⟩ : Addr))), (8, .pointer (some (⟨b_1, 0, .none⟩ : Addr)))]) S tys tys_ok 1 (by kernel_rfl) ?_
      clear S; intro a S
      refine wpList_nil ?_
      refine then_n ?_
      replace S := S.sub (l' := [(9, .int .i64 4), (8, .pointer (some (⟨b_1, 0, .none⟩ : Addr)))]) (by exact ⟨rfl, rfl, trivial⟩)
      refine wp_ret ?_
      refine then_r ?_
      obtain ⟨v_48, hr_49, R_50⟩ := res_cell (P := Try.prog) (T := 51) (t := (.st (.pair (.int .u16) (.pair (.int .u8) (.pair (.int .u8) (.pair (.int .u8) (.pair .bool (.pair .bool (.int .u8))))))))) (x := (0, 0, 0, 0, false, false, 0)) S (s := 8) rfl ty51 B_2.at_
      obtain rfl := Option.some.inj h
      exact b_res2 S rfl hr_49 (res_tmp S rfl) ⟨_, _, rfl, R_50.out, (RepV.mkInt (by decide)), W.below⟩
    · intro hc
      rw [if_neg (Bool.eq_false_iff.1 hc)] at h
      refine wp_skip ?_
      refine then_n ?_
      replace S := S.sub (l' := [(11, .pointer (some (⟨b_22, 0, .none⟩ : Addr))), (8, .pointer (some (⟨b_1, 0, .none⟩ : Addr)))]) (by exact ⟨rfl, rfl, trivial⟩)
      refine wp_seq ?_
      refine wp_region_lit ?_
      refine w_go S rfl (op_load (t := (.st (.pair (.int .u16) (.pair (.int .u8) (.pair (.int .u8) (.pair (.int .u8) (.pair .bool (.pair .bool (.int .u8))))))))) (x := t_17) S rfl ty51 rfl rfl rfl B_23.at_ ?_)
      clear S; intro a v_51 R_52 S
      refine w_go S rfl (op_store (t' := (.st (.pair (.int .u16) (.pair (.int .u8) (.pair (.int .u8) (.pair (.int .u8) (.pair .bool (.pair .bool (.int .u8))))))))) S rfl rfl ty51 rfl rfl rfl B_2 (by simp) Ln.whole R_52 ?_)
      intro w_53 hw_54 B_
      replace R_52 := R_52.wrote hw_54 (by simp)
      replace B_6 := B_6.wrote hw_54 (by simp) (W.bne (p := 1) (q := 2) (by decide) rfl rfl)
      replace B_23 := B_23.wrote hw_54 (by simp) (W.bne (p := 0) (q := 2) (by decide) rfl rfl)
      replace W := W.wrote hw_54 (by simp)
      replace B_2 : Bx (.st (.pair (.int .u16) (.pair (.int .u8) (.pair (.int .u8) (.pair (.int .u8) (.pair .bool (.pair .bool (.int .u8)))))))) 51 w_53 (Kx K w.heap.size [some b_22, some b_5, some b_1]) b_1 t_17 := B_; clear B_
      refine wl_pure (l' := [(9, .int .i64 0), (37, v_51), (11, .pointer (some (⟨b_22, 0, .none⟩ : Addr))), (8, .pointer (some (⟨b_1, 0, .none⟩ : Addr)))]) S tys tys_ok 1 (by kernel_rfl) ?_
      clear S; intro a S
      refine wpList_nil ?_
      refine then_n ?_
      replace S := S.sub (l' := [(9, .int .i64 0), (8, .pointer (some (⟨b_1, 0, .none⟩ : Addr)))]) (by exact ⟨rfl, rfl, trivial⟩)
      refine wp_ret ?_
      obtain ⟨v_55, hr_56, R_57⟩ := res_cell (P := Try.prog) (T := 51) (t := (.st (.pair (.int .u16) (.pair (.int .u8) (.pair (.int .u8) (.pair (.int .u8) (.pair .bool (.pair .bool (.int .u8))))))))) (x := t_17) S (s := 8) rfl ty51 B_2.at_
      obtain rfl := Option.some.inj h
      exact b_res2 S rfl hr_56 (res_tmp S rfl) ⟨_, _, rfl, R_57.out, (RepV.mkInt (by decide)), W.below⟩
theorem cb44 : callB Try.prog 44 = true := by kernel_rfl
def p21 (n : Nat) (x0 : Sl (Int)) : Option ((Int × Int × Int × Int × Bool × Bool × Int) × (Int)) :=
  (p44 n x0 9).bind fun t_5 =>
  some (t_5.1, t_5.2)
set_option maxHeartbeats 4000000 in
set_option maxRecDepth 100000 in
/-- plugboard/descriptors.DecodeConfiguration -/
theorem c21 (K : Nat → Prop) (n : Nat) (w : World) (x0 : Sl (Int)) (v0 : Value) (R0 : RepV (.sl (.int .u8)) w K v0 x0) {r : (Int × Int × Int × Int × Bool × Bool × Int) × (Int)} (h : p21 n x0 = some r) :
    Calls Try.prog 21 #[v0] w (Ret2 (.st (.pair (.int .u16) (.pair (.int .u8) (.pair (.int .u8) (.pair (.int .u8) (.pair .bool (.pair .bool (.int .u8)))))))) (.int .i64) w (Kx K w.heap.size []) r) := by
  refine enter (args := [v0]) Try.func21 rfl 8 rfl rfl fun a S => ?_
  have W := Wd.start w
  replace R0 := R0.arg
  unfold p21 at h
  replace S : St 8 a [(0, v0)] := S
  refine wp_seq ?_
  refine wp_region_lit ?_
  refine w_go S rfl (op_alloc (K := K) (n := w.heap.size) (L := []) (t := (.st (.pair (.int .u16) (.pair (.int .u8) (.pair (.int .u8) (.pair (.int .u8) (.pair .bool (.pair .bool (.int .u8))))))))) (y := (0, 0, 0, 0, false, false, 0)) S rfl rfl rfl _ z51 (fun w K => ⟨[.int .u16 0], [.int .u8 0, .int .u8 0, .int .u8 0, .bool false, .bool false, .int .u8 0], rfl, ⟨rfl, by decide⟩, ⟨[.int .u8 0], [.int .u8 0, .int .u8 0, .bool false, .bool false, .int .u8 0], rfl, ⟨rfl, by decide⟩, ⟨[.int .u8 0], [.int .u8 0, .bool false, .bool false, .int .u8 0], rfl, ⟨rfl, by decide⟩, ⟨[.int .u8 0], [.bool false, .bool false, .int .u8 0], rfl, ⟨rfl, by decide⟩, ⟨[.bool false], [.bool false, .int .u8 0], rfl, rfl, ⟨[.bool false], [.int .u8 0], rfl, rfl, ⟨rfl, by decide⟩⟩⟩⟩⟩⟩⟩) ?_)
  clear S; intro a w_3 b_1 hb_4 B_2 S
  replace R0 := R0.box hb_4
  replace W := W.box hb_4
  refine wl_pure (l' := [(3, .int .i64 0), (2, .pointer (some (⟨b_1, 0, .none⟩ : Addr))), (0, v0)]) S tys tys_ok 1 (by kernel_rfl) ?_
  clear S; intro a S
  refine wpList_nil ?_
  refine then_n ?_
  replace S := S.sub (l' := [(2, .pointer (some (⟨b_1, 0, .none⟩ : Addr))), (0, v0)]) (by exact ⟨rfl, rfl, trivial⟩)
  refine wp_seq ?_
  refine wp_region_lit ?_
  refine wl_pure (l' := [(4, v0), (2, .pointer (some (⟨b_1, 0, .none⟩ : Addr))), (0, v0)]) S tys tys_ok 1 (by kernel_rfl) ?_
  clear S; intro a S
  obtain ⟨t_5, et_5, h⟩ := bindS h
  refine w_go S rfl (op_call (vs := [v0, .int .i64 9, .func (.func 45) #[] #[], .func (.func 18) #[] #[]]) S rfl cb44 rfl rfl rfl (c44 (Kx K w.heap.size [some b_1]) n w_3 x0 _ R0 9 (by decide) et_5) ?_)
  rintro _ w_11 ⟨v_6, v_7, rfl, R_8, R_9, hb_10⟩; refine ⟨_, rfl, ?_⟩
  replace R_8 := RepV.back R_8 W
  replace R_9 := RepV.back R_9 W
  clear S; intro a S
  replace R0 := R0.step hb_10
  replace B_2 := B_2.step hb_10
  replace W := W.step hb_10
  obtain ⟨rfl, GR_9⟩ := RepV.int R_9
  refine wl_pure (l' := [(7, .int .i64 t_5.2), (6, v_6), (5, .tuple #[v_6, .int .i64 t_5.2]), (4, v0), (2, .pointer (some (⟨b_1, 0, .none⟩ : Addr))), (0, v0)]) S tys tys_ok 2 (by kernel_rfl) ?_
  clear S; intro a S
  refine w_go S rfl (op_store (t' := (.st (.pair (.int .u16) (.pair (.int .u8) (.pair (.int .u8) (.pair (.int .u8) (.pair .bool (.pair .bool (.int .u8))))))))) S rfl rfl ty51 rfl rfl rfl B_2 (by simp) Ln.whole R_8 ?_)
  intro w_12 hw_13 B_
  replace R0 := R0.wrote hw_13 (by simp)
  replace R_8 := R_8.wrote hw_13 (by simp)
  replace W := W.wrote hw_13 (by simp)
  replace B_2 : Bx (.st (.pair (.int .u16) (.pair (.int .u8) (.pair (.int .u8) (.pair (.int .u8) (.pair .bool (.pair .bool (.int .u8)))))))) 51 w_12 (Kx K w.heap.size [some b_1]) b_1 t_5.1 := B_; clear B_
  refine wl_pure (l' := [(3, .int .i64 t_5.2), (7, .int .i64 t_5.2), (6, v_6), (5, .tuple #[v_6, .int .i64 t_5.2]), (4, v0), (2, .pointer (some (⟨b_1, 0, .none⟩ : Addr))), (0, v0)]) S tys tys_ok 1 (by kernel_rfl) ?_
  clear S; intro a S
  refine wpList_nil ?_
  refine then_n ?_
  replace S := S.sub (l' := [(3, .int .i64 t_5.2), (2, .pointer (some (⟨b_1, 0, .none⟩ : Addr)))]) (by exact ⟨rfl, rfl, trivial⟩)
  refine wp_ret ?_
  obtain ⟨v_14, hr_15, R_16⟩ := res_cell (P := Try.prog) (T := 51) (t := (.st (.pair (.int .u16) (.pair (.int .u8) (.pair (.int .u8) (.pair (.int .u8) (.pair .bool (.pair .bool (.int .u8))))))))) (x := t_5.1) S (s := 2) rfl ty51 B_2.at_
  obtain rfl := Option.some.inj h
  exact b_res2 S rfl hr_15 (res_tmp S rfl) ⟨_, _, rfl, R_16.out, (RepV.mkInt GR_9), W.below⟩
theorem cb21 : callB Try.prog 21 = true := by kernel_rfl

end Go.Proofs.Ytojifdijcanbpaa
