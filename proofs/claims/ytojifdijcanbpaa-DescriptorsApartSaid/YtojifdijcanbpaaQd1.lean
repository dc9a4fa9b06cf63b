/- x. -/
import Derived.Test.YtojifdijcanbpaaQ1
set_option linter.unusedVariables false
set_option linter.unusedSimpArgs false
namespace Go.Proofs.Ytojifdijcanbpaa
open Go.RowKit

def p15 (n : Nat) (x0 : Int) (x1 : Int) : Option ((Bool)) :=
  if (x1 == 0) then (some (x0 == 8)) else if (x1 == 1) then ((if (x0 == 8) = false then some (x0 == 16) else some true).bind fun q_1 => (if q_1 = false then some (x0 == 32) else some true).bind fun q_2 => (if q_2 = false then some (x0 == 64) else some true).bind fun q_3 => some q_3) else (if (x1 == 2) = true then some (x0 == 64) else some false).bind fun q_4 => some q_4
set_option maxHeartbeats 4000000 in
set_option maxRecDepth 100000 in
/-- plugboard/descriptors.FitsZero -/
theorem c15 (K : Nat → Prop) (n : Nat) (w : World) (x0 : Int) (G0 : InR .i64 x0) (x1 : Int) (G1 : InR .u8 x1) {r : (Bool)} (h : p15 n x0 x1 = some r) :
    Calls Try.prog 15 #[.int .i64 x0, .int .u8 x1] w (Ret1 .bool w (Kx K w.heap.size []) r) := by
  refine enter (args := [.int .i64 x0, .int .u8 x1]) Try.func15 rfl 32 rfl rfl fun a S => ?_
  have W := Wd.start w
  unfold p15 at h
  replace S : St 32 a [(0, .int .i64 x0), (1, .int .u8 x1)] := S
  refine wp_seq ?_
  refine wp_region_lit ?_
  refine wl_pure (l' := [(4, .bool false), (0, .int .i64 x0), (1, .int .u8 x1)]) S tys tys_ok 1 (by kernel_rfl) ?_
  clear S; intro a S
  refine wpList_nil ?_
  refine then_n ?_
  replace S := S.sub (l' := [(0, .int .i64 x0), (1, .int .u8 x1)]) (by exact ⟨rfl, rfl, trivial⟩)
  refine wp_seq ?_
  refine wp_seq ?_
  refine wp_region_lit ?_
  refine wl_pure (l' := [(5, .int .u8 x1), (0, .int .i64 x0), (1, .int .u8 x1)]) S tys tys_ok 1 (by kernel_rfl) ?_
  clear S; intro a S
  refine wpList_nil ?_
  refine then_n ?_
  refine wp_block ?_
  refine wp_seq ?_
  refine wp_region_lit ?_
  refine wl_pure (l' := [(6, .bool (x1 == 0)), (7, .bool (x1 == 0)), (5, .int .u8 x1), (0, .int .i64 x0), (1, .int .u8 x1)]) S tys tys_ok 2 (by kernel_rfl) ?_
  clear S; intro a S
  refine wpList_nil ?_
  refine then_n ?_
  replace S := S.sub (l' := [(6, .bool (x1 == 0)), (5, .int .u8 x1), (0, .int .i64 x0), (1, .int .u8 x1)]) (by exact ⟨rfl, rfl, rfl, rfl, trivial⟩)
  refine wp_cond_split (S.eval (show ev _ _ = some (.bool (x1 == 0)) from rfl)) ?_ ?_
  · intro hc
    rw [if_pos hc] at h
    refine wp_seq ?_
    refine wp_region_lit ?_
    refine wl_pure (l' := [(4, .bool (x0 == 8)), (9, .bool (x0 == 8)), (8, .int .i64 x0), (6, .bool (x1 == 0)), (5, .int .u8 x1), (0, .int .i64 x0), (1, .int .u8 x1)]) S tys tys_ok 3 (by kernel_rfl) ?_
    clear S; intro a S
    refine wpList_nil ?_
    refine then_n ?_
    replace S := S.sub (l' := [(4, .bool (x0 == 8))]) (by exact ⟨rfl, trivial⟩)
    refine wp_ret ?_
    refine blk_r ?_
    refine then_r ?_
    obtain rfl := Option.some.inj h
    exact b_ret1 S rfl rfl ⟨_, rfl, RepV.mkBool, W.below⟩
  · intro hc
    rw [if_neg (Bool.eq_false_iff.1 hc)] at h
    refine wp_seq ?_
    refine wp_region_lit ?_
    refine wl_pure (l' := [(10, .bool (x1 == 1)), (11, .bool (x1 == 1)), (6, .bool (x1 == 0)), (5, .int .u8 x1), (0, .int .i64 x0), (1, .int .u8 x1)]) S tys tys_ok 2 (by kernel_rfl) ?_
    clear S; intro a S
    refine wpList_nil ?_
    refine then_n ?_
    replace S := S.sub (l' := [(10, .bool (x1 == 1)), (0, .int .i64 x0), (1, .int .u8 x1)]) (by exact ⟨rfl, rfl, rfl, trivial⟩)
    refine wp_cond_split (S.eval (show ev _ _ = some (.bool (x1 == 1)) from rfl)) ?_ ?_
    · intro hc
      rw [if_pos hc] at h
      refine wp_seq ?_
      refine wp_region_lit ?_
      refine wl_pure (l' := [(14, .bool (x0 == 8)), (13, .bool (x0 == 8)), (12, .int .i64 x0), (10, .bool (x1 == 1)), (0, .int .i64 x0), (1, .int .u8 x1)]) S tys tys_ok 3 (by kernel_rfl) ?_
      clear S; intro a S
      obtain ⟨q_1, eq_1, h⟩ := bindS h
      refine seg 3 (fun a_ w_ => w = w_ ∧ St 32 a_ [(17, .bool q_1), (0, .int .i64 x0)]) ?_ ?_
      · by_cases hc : (x0 == 8) = false
        · rw [if_pos hc] at eq_1; rw [hc] at S
          refine wl_pure (l' := [(17, .bool (x0 == 16)), (16, .bool (x0 == 16)), (15, .int .i64 x0), (14, .bool false), (13, .bool false), (12, .int .i64 x0), (10, .bool (x1 == 1)), (0, .int .i64 x0), (1, .int .u8 x1)]) S tys tys_ok 3 (by kernel_rfl) ?_
          clear S; intro a S
          obtain rfl := Option.some.inj eq_1
          exact ⟨rfl, S.sub (by exact ⟨rfl, rfl, trivial⟩)⟩
        · rw [if_neg hc] at eq_1; rw [show (x0 == 8) = true from (by simpa using hc)] at S
          refine wl_pure (l' := [(17, .bool true), (16, undef), (15, undef), (14, .bool true), (13, .bool true), (12, .int .i64 x0), (10, .bool (x1 == 1)), (0, .int .i64 x0), (1, .int .u8 x1)]) S tys tys_ok 3 (by kernel_rfl) ?_
          clear S; intro a S
          obtain rfl := Option.some.inj eq_1
          exact ⟨rfl, S.sub (by exact ⟨rfl, rfl, trivial⟩)⟩
      clear S eq_1; rintro a _ ⟨rfl, S⟩
      refine wl_pure (l' := [(18, .bool q_1), (17, .bool q_1), (0, .int .i64 x0)]) S tys tys_ok 1 (by kernel_rfl) ?_
      clear S; intro a S
      obtain ⟨q_2, eq_2, h⟩ := bindS h
      refine seg 3 (fun a_ w_ => w = w_ ∧ St 32 a_ [(21, .bool q_2), (0, .int .i64 x0)]) ?_ ?_
      · by_cases hc : q_1 = false
        · rw [if_pos hc] at eq_2; rw [hc] at S
          refine wl_pure (l' := [(21, .bool (x0 == 32)), (20, .bool (x0 == 32)), (19, .int .i64 x0), (18, .bool false), (17, .bool false), (0, .int .i64 x0)]) S tys tys_ok 3 (by kernel_rfl) ?_
          clear S; intro a S
          obtain rfl := Option.some.inj eq_2
          exact ⟨rfl, S.sub (by exact ⟨rfl, rfl, trivial⟩)⟩
        · rw [if_neg hc] at eq_2; rw [show q_1 = true from (by simpa using hc)] at S
          refine wl_pure (l' := [(21, .bool true), (20, undef), (19, undef), (18, .bool true), (17, .bool true), (0, .int .i64 x0)]) S tys tys_ok 3 (by kernel_rfl) ?_
          clear S; intro a S
          obtain rfl := Option.some.inj eq_2
          exact ⟨rfl, S.sub (by exact ⟨rfl, rfl, trivial⟩)⟩
      clear S eq_2; rintro a _ ⟨rfl, S⟩
      refine wl_pure (l' := [(22, .bool q_2), (21, .bool q_2), (0, .int .i64 x0)]) S tys tys_ok 1 (by kernel_rfl) ?_
      clear S; intro a S
      obtain ⟨q_3, eq_3, h⟩ := bindS h
      refine seg 3 (fun a_ w_ => w = w_ ∧ St 32 a_ [(25, .bool q_3)]) ?_ ?_
      · by_cases hc : q_2 = false
        · rw [if_pos hc] at eq_3; rw [hc] at S
          refine wl_pure (l' := [(25, .bool (x0 == 64)), (24, .bool (x0 == 64)), (23, .int .i64 x0), (22, .bool false), (21, .bool false), (0, .int .i64 x0)]) S tys tys_ok 3 (by kernel_rfl) ?_
          clear S; intro a S
          obtain rfl := Option.some.inj eq_3
          exact ⟨rfl, S.sub (by exact ⟨rfl, trivial⟩)⟩
        · rw [if_neg hc] at eq_3; rw [show q_2 = true from (by simpa using hc)] at S
          refine wl_pure (l' := [(25, .bool true), (24, undef), (23, undef), (22, .bool true), (21, .bool true), (0, .int .i64 x0)]) S tys tys_ok 3 (by kernel_rfl) ?_
          clear S; intro a S
          obtain rfl := Option.some.inj eq_3
          exact ⟨rfl, S.sub (by exact ⟨rfl, trivial⟩)⟩
      clear S eq_3; rintro a _ ⟨rfl, S⟩
      refine wl_pure (l' := [(4, .bool q_3), (25, .bool q_3)]) S tys tys_ok 1 (by kernel_rfl) ?_
      clear S; intro a S
      refine wpList_nil ?_
      refine then_n ?_
      replace S := S.sub (l' := [(4, .bool q_3)]) (by exact ⟨rfl, trivial⟩)
      refine wp_ret ?_
      refine blk_r ?_
      refine then_r ?_
      obtain rfl := Option.some.inj h
      exact b_ret1 S rfl rfl ⟨_, rfl, RepV.mkBool, W.below⟩
    · intro hc
      rw [if_neg (Bool.eq_false_iff.1 hc)] at h
      refine wp_skip ?_
      refine blk_n ?_
      refine then_n ?_
      replace S := S.sub (l' := [(0, .int .i64 x0), (1, .int .u8 x1)]) (by exact ⟨rfl, rfl, trivial⟩)
      refine wp_seq ?_
      refine wp_region_lit ?_
      refine wl_pure (l' := [(28, .bool (x1 == 2)), (27, .bool (x1 == 2)), (26, .int .u8 x1), (0, .int .i64 x0), (1, .int .u8 x1)]) S tys tys_ok 3 (by kernel_rfl) ?_
      clear S; intro a S
      obtain ⟨q_4, eq_4, h⟩ := bindS h
      refine seg 3 (fun a_ w_ => w = w_ ∧ St 32 a_ [(31, .bool q_4)]) ?_ ?_
      · by_cases hc : (x1 == 2) = true
        · rw [if_pos hc] at eq_4; rw [hc] at S
          refine wl_pure (l' := [(31, .bool (x0 == 64)), (30, .bool (x0 == 64)), (29, .int .i64 x0), (28, .bool true), (27, .bool true), (26, .int .u8 x1), (0, .int .i64 x0), (1, .int .u8 x1)]) S tys tys_ok 3 (by kernel_rfl) ?_
          clear S; intro a S
          obtain rfl := Option.some.inj eq_4
          exact ⟨rfl, S.sub (by exact ⟨rfl, trivial⟩)⟩
        · rw [if_neg hc] at eq_4; rw [show (x1 == 2) = false from Bool.eq_false_iff.2 hc] at S
          refine wl_pure (l' := [(31, .bool false), (30, undef), (29, undef), (28, .bool false), (27, .bool false), (26, .int .u8 x1), (0, .int .i64 x0), (1, .int .u8 x1)]) S tys tys_ok 3 (by kernel_rfl) ?_
          clear S; intro a S
          obtain rfl := Option.some.inj eq_4
          exact ⟨rfl, S.sub (by exact ⟨rfl, trivial⟩)⟩
      clear S eq_4; rintro a _ ⟨rfl, S⟩
      refine wl_pure (l' := [(4, .bool q_4), (31, .bool q_4)]) S tys tys_ok 1 (by kernel_rfl) ?_
      clear S; intro a S
      refine wpList_nil ?_
      refine then_n ?_
      replace S := S.sub (l' := [(4, .bool q_4)]) (by exact ⟨rfl, trivial⟩)
      refine wp_ret ?_
      obtain rfl := Option.some.inj h
      exact b_ret1 S rfl rfl ⟨_, rfl, RepV.mkBool, W.below⟩
theorem cb15 : callB Try.prog 15 = true := by kernel_rfl
def p16 (n : Nat) (x0 : Int × Int × Int × Int × Int × Int × Int × Int × Int × Int × Int × Int) : Option ((Sl (Int)) × (Int)) :=
  (p15 n x0.2.2.2.2.1 1).bind fun t_7 =>
  (if (!t_7) = false then some (decide (x0.2.2.2.2.2.2.2.2.2.2.2 < 1)) else some true).bind fun q_12 =>
  (if q_12 = false then some (decide (x0.2.2.2.2.2.2.2.2.2.2.2 > 8)) else some true).bind fun q_15 =>
  if q_15 then (some ((⟨[], some 0⟩ : Sl (Int)), 1)) else (p42 n x0.1).bind fun t_20 => (p43 n x0.1).bind fun t_27 => (p42 n x0.2.2.2.2.2.1).bind fun t_42 => (p43 n x0.2.2.2.2.2.1).bind fun t_49 => (p42 n x0.2.2.2.2.2.2.1).bind fun t_56 => (p43 n x0.2.2.2.2.2.2.1).bind fun t_63 => (p42 n x0.2.2.2.2.2.2.2.1).bind fun t_70 => (p43 n x0.2.2.2.2.2.2.2.1).bind fun t_77 => (p41 n 1 (⟨[t_20, t_27, x0.2.1, x0.2.2.1, x0.2.2.2.1, x0.2.2.2.2.1, t_42, t_49, t_56, t_63, t_70, t_77, x0.2.2.2.2.2.2.2.2.1, x0.2.2.2.2.2.2.2.2.2.1, x0.2.2.2.2.2.2.2.2.2.2.1, x0.2.2.2.2.2.2.2.2.2.2.2], some 16⟩ : Sl (Int))).bind fun t_94 => some (t_94, 0)
set_option maxHeartbeats 4000000 in
set_option maxRecDepth 100000 in
/-- plugboard/descriptors.EncodeDevice -/
theorem c16 (K : Nat → Prop) (n : Nat) (w : World) (x0 : Int × Int × Int × Int × Int × Int × Int × Int × Int × Int × Int × Int) (v0 : Value) (R0 : RepV (.st (.pair (.int .u16) (.pair (.int .u8) (.pair (.int .u8) (.pair (.int .u8) (.pair (.int .u8) (.pair (.int .u16) (.pair (.int .u16) (.pair (.int .u16) (.pair (.int .u8) (.pair (.int .u8) (.pair (.int .u8) (.int .u8))))))))))))) w K v0 x0) {r : (Sl (Int)) × (Int)} (h : p16 n x0 = some r) :
    Calls Try.prog 16 #[v0] w (Ret2 (.sl (.int .u8)) (.int .i64) w (Kx K w.heap.size []) r) := by
  refine enter (args := [v0]) Try.func16 rfl 61 rfl rfl fun a S => ?_
  have W := Wd.start w
  replace R0 := R0.arg
  unfold p16 at h
  replace S : St 61 a [(0, v0)] := S
  refine wp_seq ?_
  refine wp_region_lit ?_
  refine w_go S rfl (op_box S rfl rfl rfl rfl rfl R0 ?_)
  clear S; intro a w_3 b_1 hb_4 B_2 S
  replace R0 := R0.box hb_4
  replace W := W.box hb_4
  refine wl_pure (l' := [(3, .int .i64 0), (2, .slice .none 0 0), (1, .pointer (some (⟨b_1, 0, .none⟩ : Addr))), (0, v0)]) S tys tys_ok 2 (by kernel_rfl) ?_
  clear S; intro a S
  refine wpList_nil ?_
  refine then_n ?_
  replace S := S.sub (l' := [(1, .pointer (some (⟨b_1, 0, .none⟩ : Addr)))]) (by exact ⟨rfl, trivial⟩)
  refine wp_seq ?_
  refine wp_seq ?_
  refine wp_region_lit ?_
  refine wl_pure (l' := [(4, .pointer (some ((⟨b_1, 0, .none⟩ : Addr).add (coff (.pair (.int .u16) (.pair (.int .u8) (.pair (.int .u8) (.pair (.int .u8) (.pair (.int .u8) (.pair (.int .u16) (.pair (.int .u16) (.pair (.int .u16) (.pair (.int .u8) (.pair (.int .u8) (.pair (.int .u8) (.int .u8)))))))))))) 4)))), (1, .pointer (some (⟨b_1, 0, .none⟩ : Addr)))]) S tys tys_ok 1 (by kernel_rfl) ?_
  clear S; intro a S
  refine w_go S rfl (op_load (t := (.int .u8)) (x := x0.2.2.2.2.1) S rfl ty5 rfl rfl rfl (RepAt.add 4 (RepAt.st B_2.at_)) ?_)
  clear S; intro a v_5 R_6 S
  obtain ⟨rfl, GR_6⟩ := RepV.int R_6
  refine w_go S rfl (op_conv S .i64 .bool .bool rfl ty5 ty3 rfl rfl rfl (widen GR_6 (by decide)).1 ?_)
  clear S; intro a S
  obtain ⟨t_7, et_7, h⟩ := bindS h
  refine w_go S rfl (op_call (vs := [.int .i64 x0.2.2.2.2.1, .int .u8 1]) S rfl cb15 rfl rfl rfl (c15 (Kx K w.heap.size [some b_1]) n w_3 x0.2.2.2.2.1 (widen GR_6 (by decide)).2 1 (by decide) et_7) ?_)
  rintro _ w_11 ⟨v_8, rfl, R_9, hb_10⟩; refine ⟨_, rfl, ?_⟩
  replace R_9 := RepV.back R_9 W
  clear S; intro a S
  replace B_2 := B_2.step hb_10
  replace W := W.step hb_10
  obtain rfl := RepV.bool R_9
  refine wl_pure (l' := [(9, .bool (!t_7)), (8, .bool (!t_7)), (7, .bool t_7), (6, .int .i64 x0.2.2.2.2.1), (5, .int .u8 x0.2.2.2.2.1), (4, .pointer (some ((⟨b_1, 0, .none⟩ : Addr).add (coff (.pair (.int .u16) (.pair (.int .u8) (.pair (.int .u8) (.pair (.int .u8) (.pair (.int .u8) (.pair (.int .u16) (.pair (.int .u16) (.pair (.int .u16) (.pair (.int .u8) (.pair (.int .u8) (.pair (.int .u8) (.int .u8)))))))))))) 4)))), (1, .pointer (some (⟨b_1, 0, .none⟩ : Addr)))]) S tys tys_ok 2 (by kernel_rfl) ?_
  clear S; intro a S
  obtain ⟨q_12, eq_12, h⟩ := bindS h
  refine seg 4 (fun a_ w_ => w_11 = w_ ∧ St 61 a_ [(13, .bool q_12), (1, .pointer (some (⟨b_1, 0, .none⟩ : Addr)))]) ?_ ?_
  · by_cases hc : (!t_7) = false
    · rw [if_pos hc] at eq_12; rw [hc] at S
      refine wl_pure (l' := [(10, .pointer (some ((⟨b_1, 0, .none⟩ : Addr).add (coff (.pair (.int .u16) (.pair (.int .u8) (.pair (.int .u8) (.pair (.int .u8) (.pair (.int .u8) (.pair (.int .u16) (.pair (.int .u16) (.pair (.int .u16) (.pair (.int .u8) (.pair (.int .u8) (.pair (.int .u8) (.int .u8)))))))))))) 11)))), (9, .bool false), (8, .bool false), (7, .bool t_7), (6, .int .i64 x0.2.2.2.2.1), (5, .int .u8 x0.2.2.2.2.1), (4, .pointer (some ((⟨b_1, 0, .none⟩ : Addr).add (coff (.pair (.int .u16) (.pair (.int .u8) (.pair (.int .u8) (.pair (.int .u8) (.pair (.int .u8) (.pair (.int .u16) (.pair (.int .u16) (.pair (.int .u16) (.pair (.int .u8) (.pair (.int .u8) (.pair (.int .u8) (.int .u8)))))))))))) 4)))), (1, .pointer (some (⟨b_1, 0, .none⟩ : Addr)))]) S tys tys_ok 1 (by kernel_rfl) ?_
      clear S; intro a S
      refine w_go S rfl (op_load (t := (.int .u8)) (x := x0.2.2.2.2.2.2.2.2.2.2.2) S rfl ty5 rfl rfl rfl (RepAt.add 11 (RepAt.st B_2.at_)) ?_)
      clear S; intro a v_13 R_14 S
      obtain ⟨rfl, GR_14⟩ := RepV.int R_14
      refine wl_pure (l' := [(13, .bool (decide (x0.2.2.2.2.2.2.2.2.2.2.2 < 1))), (12, .bool (decide (x0.2.2.2.2.2.2.2.2.2.2.2 < 1))), (11, .int .u8 x0.2.2.2.2.2.2.2.2.2.2.2), (10, .pointer (some ((⟨b_1, 0, .none⟩ : Addr).add (coff (.pair (.int .u16) (.pair (.int .u8) (.pair (.int .u8) (.pair (.int .u8) (.pair (.int .u8) (.pair (.int .u16) (.pair (.int .u16) (.pair (.int .u16) (.pair (.int .u8) (.pair (.int .u8) (.pair (.int .u8) (.int .u8)))))))))))) 11)))), (9, .bool false), (8, .bool false), (7, .bool t_7), (6, .int .i64 x0.2.2.2.2.1), (5, .int .u8 x0.2.2.2.2.1), (4, .pointer (some ((⟨b_1, 0, .none⟩ : Addr).add (coff (.pair (.int .u16) (.pair (.int .u8) (.pair (.int .u8) (.pair (.int .u8) (.pair (.int .u8) (.pair (.int .u16) (.pair (.int .u16) (.pair (.int .u16) (.pair (.int .u8) (.pair (.int .u8) (.pair (.int .u8) (.int .u8)))))))))))) 4)))), (1, .pointer (some (⟨b_1, 0, .none⟩ : Addr)))]) S tys tys_ok 2 (by kernel_rfl) ?_
      clear S; intro a S
      obtain rfl := Option.some.inj eq_12
      exact ⟨rfl, S.sub (by exact ⟨rfl, rfl, trivial⟩)⟩
    · rw [if_neg hc] at eq_12; rw [show (!t_7) = true from (by simpa using hc)] at S
      refine wl_pure (l' := [(13, .bool true), (12, undef), (11, undef), (10, undef), (9, .bool true), (8, .bool true), (7, .bool t_7), (6, .int .i64 x0.2.2.2.2.1), (5, .int .u8 x0.2.2.2.2.1), (4, .pointer (some ((⟨b_1, 0, .none⟩ : Addr).add (coff (.pair (.int .u16) (.pair (.int .u8) (.pair (.int .u8) (.pair (.int .u8) (.pair (.int .u8) (.pair (.int .u16) (.pair (.int .u16) (.pair (.int .u16) (.pair (.int .u8) (.pair (.int .u8) (.pair (.int .u8) (.int .u8)))))))))))) 4)))), (1, .pointer (some (⟨b_1, 0, .none⟩ : Addr)))]) S tys tys_ok 4 (by kernel_rfl) ?_
      clear S; intro a S
      obtain rfl := Option.some.inj eq_12
      exact ⟨rfl, S.sub (by exact ⟨rfl, rfl, trivial⟩)⟩
  clear S eq_12; rintro a _ ⟨rfl, S⟩
  refine wl_pure (l' := [(14, .bool q_12), (13, .bool q_12), (1, .pointer (some (⟨b_1, 0, .none⟩ : Addr)))]) S tys tys_ok 1 (by kernel_rfl) ?_
  clear S; intro a S
  obtain ⟨q_15, eq_15, h⟩ := bindS h
  refine seg 4 (fun a_ w_ => w_11 = w_ ∧ St 61 a_ [(18, .bool q_15), (1, .pointer (some (⟨b_1, 0, .none⟩ : Addr)))]) ?_ ?_
  · by_cases hc : q_12 = false
    · rw [if_pos hc] at eq_15; rw [hc] at S
      refine wl_pure (l' := [(15, .pointer (some ((⟨b_1, 0, .none⟩ : Addr).add (coff (.pair (.int .u16) (.pair (.int .u8) (.pair (.int .u8) (.pair (.int .u8) (.pair (.int .u8) (.pair (.int .u16) (.pair (.int .u16) (.pair (.int .u16) (.pair (.int .u8) (.pair (.int .u8) (.pair (.int .u8) (.int .u8)))))))))))) 11)))), (14, .bool false), (13, .bool false), (1, .pointer (some (⟨b_1, 0, .none⟩ : Addr)))]) S tys tys_ok 1 (by kernel_rfl) ?_
      clear S; intro a S
      refine w_go S rfl (op_load (t := (.int .u8)) (x := x0.2.2.2.2.2.2.2.2.2.2.2) S rfl ty5 rfl rfl rfl (RepAt.add 11 (RepAt.st B_2.at_)) ?_)
      clear S; intro a v_16 R_17 S
      obtain ⟨rfl, GR_17⟩ := RepV.int R_17
      refine wl_pure (l' := [(18, .bool (decide (x0.2.2.2.2.2.2.2.2.2.2.2 > 8))), (17, .bool (decide (x0.2.2.2.2.2.2.2.2.2.2.2 > 8))), (16, .int .u8 x0.2.2.2.2.2.2.2.2.2.2.2), (15, .pointer (some ((⟨b_1, 0, .none⟩ : Addr).add (coff (.pair (.int .u16) (.pair (.int .u8) (.pair (.int .u8) (.pair (.int .u8) (.pair (.int .u8) (.pair (.int .u16) (.pair (.int .u16) (.pair (.int .u16) (.pair (.int .u8) (.pair (.int .u8) (.pair (.int .u8) (.int .u8)))))))))))) 11)))), (14, .bool false), (13, .bool false), (1, .pointer (some (⟨b_1, 0, .none⟩ : Addr)))]) S tys tys_ok 2 (by kernel_rfl) ?_
      clear S; intro a S
      obtain rfl := Option.some.inj eq_15
      exact ⟨rfl, S.sub (by exact ⟨rfl, rfl, trivial⟩)⟩
    · rw [if_neg hc] at eq_15; rw [show q_12 = true from (by simpa using hc)] at S
      refine wl_pure (l' := [(18, .bool true), (17, undef), (16, undef), (15, undef), (14, .bool true), (13, .bool true), (1, .pointer (some (⟨b_1, 0, .none⟩ : Addr)))]) S tys tys_ok 4 (by kernel_rfl) ?_
      clear S; intro a S
      obtain rfl := Option.some.inj eq_15
      exact ⟨rfl, S.sub (by exact ⟨rfl, rfl, trivial⟩)⟩
  clear S eq_15; rintro a _ ⟨rfl, S⟩
  refine wpList_nil ?_
  refine then_n ?_
  refine wp_cond_split (S.eval (show ev _ _ = some (.bool q_15) from rfl)) ?_ ?_
  · intro hc
    rw [if_pos hc] at h
    refine wp_seq ?_
    refine wp_region_lit ?_
    refine wl_pure (l' := [(3, .int .i64 1), (2, .slice .none 0 0), (18, .bool q_15), (1, .pointer (some (⟨b_1, 0, .none⟩ : Addr)))]) S tys tys_ok 2 (by kernel_rfl) ?_
    clear S; intro a S
    refine wpList_nil ?_
    refine then_n ?_
    replace S := S.sub (l' := [(3, .int .i64 1), (2, .slice .none 0 0)]) (by exact ⟨rfl, rfl, trivial⟩)
    refine wp_ret ?_
    refine then_r ?_
    obtain rfl := Option.some.inj h
    exact b_ret2 S rfl rfl rfl ⟨_, _, rfl, RepV.nil, (RepV.mkInt (by decide)), W.below⟩
  · intro hc
    rw [if_neg (Bool.eq_false_iff.1 hc)] at h
    refine wp_skip ?_
    refine then_n ?_
    replace S := S.sub (l' := [(1, .pointer (some (⟨b_1, 0, .none⟩ : Addr)))]) (by exact ⟨rfl, trivial⟩)
    refine wp_seq ?_
    obtain ⟨t_20, et_20, h⟩ := bindS h
    obtain ⟨t_27, et_27, h⟩ := bindS h
    obtain ⟨t_42, et_42, h⟩ := bindS h
    obtain ⟨t_49, et_49, h⟩ := bindS h
    obtain ⟨t_56, et_56, h⟩ := bindS h
    obtain ⟨t_63, et_63, h⟩ := bindS h
    obtain ⟨t_70, et_70, h⟩ := bindS h
    obtain ⟨t_77, et_77, h⟩ := bindS h
    obtain ⟨t_94, et_94, h⟩ := bindS h
    have hR : Rel (Kx K w.heap.size [some b_1]) Bl := Bl.rel _
    refine wp_region_all hR [eqv (.pointer (some ((⟨b_1, 0, .none⟩ : Addr).add (coff (.pair (.int .u16) (.pair (.int .u8) (.pair (.int .u8) (.pair (.int .u8) (.pair (.int .u8) (.pair (.int .u16) (.pair (.int .u16) (.pair (.int .u16) (.pair (.int .u8) (.pair (.int .u8) (.pair (.int .u8) (.int .u8)))))))))))) 0)))), isI .u16 x0.1, isI .u8 t_20, eqv (.pointer (some ((⟨b_1, 0, .none⟩ : Addr).add (coff (.pair (.int .u16) (.pair (.int .u8) (.pair (.int .u8) (.pair (.int .u8) (.pair (.int .u8) (.pair (.int .u16) (.pair (.int .u16) (.pair (.int .u16) (.pair (.int .u8) (.pair (.int .u8) (.pair (.int .u8) (.int .u8)))))))))))) 0)))), isI .u16 x0.1, isI .u8 t_27, eqv (.pointer (some ((⟨b_1, 0, .none⟩ : Addr).add (coff (.pair (.int .u16) (.pair (.int .u8) (.pair (.int .u8) (.pair (.int .u8) (.pair (.int .u8) (.pair (.int .u16) (.pair (.int .u16) (.pair (.int .u16) (.pair (.int .u8) (.pair (.int .u8) (.pair (.int .u8) (.int .u8)))))))))))) 1)))), isI .u8 x0.2.1, eqv (.pointer (some ((⟨b_1, 0, .none⟩ : Addr).add (coff (.pair (.int .u16) (.pair (.int .u8) (.pair (.int .u8) (.pair (.int .u8) (.pair (.int .u8) (.pair (.int .u16) (.pair (.int .u16) (.pair (.int .u16) (.pair (.int .u8) (.pair (.int .u8) (.pair (.int .u8) (.int .u8)))))))))))) 2)))), isI .u8 x0.2.2.1, eqv (.pointer (some ((⟨b_1, 0, .none⟩ : Addr).add (coff (.pair (.int .u16) (.pair (.int .u8) (.pair (.int .u8) (.pair (.int .u8) (.pair (.int .u8) (.pair (.int .u16) (.pair (.int .u16) (.pair (.int .u16) (.pair (.int .u8) (.pair (.int .u8) (.pair (.int .u8) (.int .u8)))))))))))) 3)))), isI .u8 x0.2.2.2.1, eqv (.pointer (some ((⟨b_1, 0, .none⟩ : Addr).add (coff (.pair (.int .u16) (.pair (.int .u8) (.pair (.int .u8) (.pair (.int .u8) (.pair (.int .u8) (.pair (.int .u16) (.pair (.int .u16) (.pair (.int .u16) (.pair (.int .u8) (.pair (.int .u8) (.pair (.int .u8) (.int .u8)))))))))))) 4)))), isI .u8 x0.2.2.2.2.1, eqv (.pointer (some ((⟨b_1, 0, .none⟩ : Addr).add (coff (.pair (.int .u16) (.pair (.int .u8) (.pair (.int .u8) (.pair (.int .u8) (.pair (.int .u8) (.pair (.int .u16) (.pair (.int .u16) (.pair (.int .u16) (.pair (.int .u8) (.pair (.int .u8) (.pair (.int .u8) (.int .u8)))))))))))) 5)))), isI .u16 x0.2.2.2.2.2.1, isI .u8 t_42, eqv (.pointer (some ((⟨b_1, 0, .none⟩ : Addr).add (coff (.pair (.int .u16) (.pair (.int .u8) (.pair (.int .u8) (.pair (.int .u8) (.pair (.int .u8) (.pair (.int .u16) (.pair (.int .u16) (.pair (.int .u16) (.pair (.int .u8) (.pair (.int .u8) (.pair (.int .u8) (.int .u8)))))))))))) 5)))), isI .u16 x0.2.2.2.2.2.1, isI .u8 t_49, eqv (.pointer (some ((⟨b_1, 0, .none⟩ : Addr).add (coff (.pair (.int .u16) (.pair (.int .u8) (.pair (.int .u8) (.pair (.int .u8) (.pair (.int .u8) (.pair (.int .u16) (.pair (.int .u16) (.pair (.int .u16) (.pair (.int .u8) (.pair (.int .u8) (.pair (.int .u8) (.int .u8)))))))))))) 6)))), isI .u16 x0.2.2.2.2.2.2.1, isI .u8 t_56, eqv (.pointer (some ((⟨b_1, 0, .none⟩ : Addr).add (coff (.pair (.int .u16) (.pair (.int .u8) (.pair (.int .u8) (.pair (.int .u8) (.pair (.int .u8) (.pair (.int .u16) (.pair (.int .u16) (.pair (.int .u16) (.pair (.int .u8) (.pair (.int .u8) (.pair (.int .u8) (.int .u8)))))))))))) 6)))), isI .u16 x0.2.2.2.2.2.2.1, isI .u8 t_63, eqv (.pointer (some ((⟨b_1, 0, .none⟩ : Addr).add (coff (.pair (.int .u16) (.pair (.int .u8) (.pair (.int .u8) (.pair (.int .u8) (.pair (.int .u8) (.pair (.int .u16) (.pair (.int .u16) (.pair (.int .u16) (.pair (.int .u8) (.pair (.int .u8) (.pair (.int .u8) (.int .u8)))))))))))) 7)))), isI .u16 x0.2.2.2.2.2.2.2.1, isI .u8 t_70, eqv (.pointer (some ((⟨b_1, 0, .none⟩ : Addr).add (coff (.pair (.int .u16) (.pair (.int .u8) (.pair (.int .u8) (.pair (.int .u8) (.pair (.int .u8) (.pair (.int .u16) (.pair (.int .u16) (.pair (.int .u16) (.pair (.int .u8) (.pair (.int .u8) (.pair (.int .u8) (.int .u8)))))))))))) 7)))), isI .u16 x0.2.2.2.2.2.2.2.1, isI .u8 t_77, eqv (.pointer (some ((⟨b_1, 0, .none⟩ : Addr).add (coff (.pair (.int .u16) (.pair (.int .u8) (.pair (.int .u8) (.pair (.int .u8) (.pair (.int .u8) (.pair (.int .u16) (.pair (.int .u16) (.pair (.int .u16) (.pair (.int .u8) (.pair (.int .u8) (.pair (.int .u8) (.int .u8)))))))))))) 8)))), isI .u8 x0.2.2.2.2.2.2.2.2.1, eqv (.pointer (some ((⟨b_1, 0, .none⟩ : Addr).add (coff (.pair (.int .u16) (.pair (.int .u8) (.pair (.int .u8) (.pair (.int .u8) (.pair (.int .u8) (.pair (.int .u16) (.pair (.int .u16) (.pair (.int .u16) (.pair (.int .u8) (.pair (.int .u8) (.pair (.int .u8) (.int .u8)))))))))))) 9)))), isI .u8 x0.2.2.2.2.2.2.2.2.2.1, eqv (.pointer (some ((⟨b_1, 0, .none⟩ : Addr).add (coff (.pair (.int .u16) (.pair (.int .u8) (.pair (.int .u8) (.pair (.int .u8) (.pair (.int .u8) (.pair (.int .u16) (.pair (.int .u16) (.pair (.int .u16) (.pair (.int .u8) (.pair (.int .u8) (.pair (.int .u8) (.int .u8)))))))))))) 10)))), isI .u8 x0.2.2.2.2.2.2.2.2.2.2.1, eqv (.pointer (some ((⟨b_1, 0, .none⟩ : Addr).add (coff (.pair (.int .u16) (.pair (.int .u8) (.pair (.int .u8) (.pair (.int .u8) (.pair (.int .u8) (.pair (.int .u16) (.pair (.int .u16) (.pair (.int .u16) (.pair (.int .u8) (.pair (.int .u8) (.pair (.int .u8) (.int .u8)))))))))))) 11)))), isI .u8 x0.2.2.2.2.2.2.2.2.2.2.2, isRep (.sl (.int .u8)) (Kx K w.heap.size [some b_1]) (⟨[t_20, t_27, x0.2.1, x0.2.2.1, x0.2.2.2.1, x0.2.2.2.2.1, t_42, t_49, t_56, t_63, t_70, t_77, x0.2.2.2.2.2.2.2.2.1, x0.2.2.2.2.2.2.2.2.2.1, x0.2.2.2.2.2.2.2.2.2.2.1, x0.2.2.2.2.2.2.2.2.2.2.2], some 16⟩ : Sl (Int)), isRep (.sl (.int .u8)) (Kx K w.heap.size [some b_1]) t_94, isRep (.sl (.int .u8)) (Kx K w.heap.size [some b_1]) t_94, eqv (.int .i64 0)] [[], [(0, 19)], [(1, 20)], [], [(3, 22)], [(4, 23)], [], [(6, 25)], [], [(8, 27)], [], [(10, 29)], [], [(12, 31)], [], [(14, 33)], [(15, 34)], [], [(17, 36)], [(18, 37)], [], [(20, 39)], [(21, 40)], [], [(23, 42)], [(24, 43)], [], [(26, 45)], [(27, 46)], [], [(29, 48)], [(30, 49)], [], [(32, 51)], [], [(34, 53)], [], [(36, 55)], [], [(38, 57)], [(2, 21), (5, 24), (7, 26), (9, 28), (11, 30), (13, 32), (16, 35), (19, 38), (22, 41), (25, 44), (28, 47), (31, 50), (33, 52), (35, 54), (37, 56), (39, 58)], [(40, 59)], [(41, 60)], []] (by kernel_rfl) (by rw [S.size]; kernel_rfl) (by kernel_rfl) (by kernel_rfl) rfl ⟨(stab_eqv _), stab_I, stab_I, (stab_eqv _), stab_I, stab_I, (stab_eqv _), stab_I, (stab_eqv _), stab_I, (stab_eqv _), stab_I, (stab_eqv _), stab_I, (stab_eqv _), stab_I, stab_I, (stab_eqv _), stab_I, stab_I, (stab_eqv _), stab_I, stab_I, (stab_eqv _), stab_I, stab_I, (stab_eqv _), stab_I, stab_I, (stab_eqv _), stab_I, stab_I, (stab_eqv _), stab_I, (stab_eqv _), stab_I, (stab_eqv _), stab_I, (stab_eqv _), stab_I, (stab_rep hR), (stab_rep hR), (stab_rep hR), (stab_eqv _), trivial⟩ ?_ ?_
    ·
      refine RunAll.cons (eqv (.pointer (some ((⟨b_1, 0, .none⟩ : Addr).add (coff (.pair (.int .u16) (.pair (.int .u8) (.pair (.int .u8) (.pair (.int .u8) (.pair (.int .u8) (.pair (.int .u16) (.pair (.int .u16) (.pair (.int .u16) (.pair (.int .u8) (.pair (.int .u8) (.pair (.int .u8) (.int .u8)))))))))))) 0))))) [] rfl rfl ?_ ?_
      · intro W_ hW
        have S1 := S
        refine fill_nil S1 ?_; clear S1; intro a_ S1
        replace B_2 := B_2.step hW
        have S0 := S.defers; replace S := S1; clear S1
        refine wl_pure (l' := [(19, .pointer (some ((⟨b_1, 0, .none⟩ : Addr).add (coff (.pair (.int .u16) (.pair (.int .u8) (.pair (.int .u8) (.pair (.int .u8) (.pair (.int .u8) (.pair (.int .u16) (.pair (.int .u16) (.pair (.int .u16) (.pair (.int .u8) (.pair (.int .u8) (.pair (.int .u8) (.int .u8)))))))))))) 0)))), (1, .pointer (some (⟨b_1, 0, .none⟩ : Addr)))]) S tys tys_ok 1 (by kernel_rfl) ?_; clear S; intro a S
        refine wpList_nil ?_
        exact RPost.mk_ S rfl S0 rfl (Below.refl _ _)
      refine RunAll.cons (isI .u16 x0.1) [(eqv (.pointer (some ((⟨b_1, 0, .none⟩ : Addr).add (coff (.pair (.int .u16) (.pair (.int .u8) (.pair (.int .u8) (.pair (.int .u8) (.pair (.int .u8) (.pair (.int .u16) (.pair (.int .u16) (.pair (.int .u16) (.pair (.int .u8) (.pair (.int .u8) (.pair (.int .u8) (.int .u8)))))))))))) 0)))), 19)] rfl rfl ?_ ?_
      · intro W_ hW
        have S1 := S
        intro v_100 hF_99; obtain rfl : .pointer (some ((⟨b_1, 0, .none⟩ : Addr).add (coff (.pair (.int .u16) (.pair (.int .u8) (.pair (.int .u8) (.pair (.int .u8) (.pair (.int .u8) (.pair (.int .u16) (.pair (.int .u16) (.pair (.int .u16) (.pair (.int .u8) (.pair (.int .u8) (.pair (.int .u8) (.int .u8)))))))))))) 0))) = v_100 := Eq.symm hF_99
        replace S1 := S1.put (by decide : 19 < 61) (.pointer (some ((⟨b_1, 0, .none⟩ : Addr).add (coff (.pair (.int .u16) (.pair (.int .u8) (.pair (.int .u8) (.pair (.int .u8) (.pair (.int .u8) (.pair (.int .u16) (.pair (.int .u16) (.pair (.int .u16) (.pair (.int .u8) (.pair (.int .u8) (.pair (.int .u8) (.int .u8)))))))))))) 0))))
        refine fill_nil S1 ?_; clear S1; intro a_ S1
        replace B_2 := B_2.step hW
        have S0 := S.defers; replace S := S1; clear S1
        refine w_go S rfl (op_load (t := (.int .u16)) (x := x0.1) S rfl ty33 rfl rfl rfl (RepAt.add 0 (RepAt.st B_2.at_)) ?_)
        clear S; intro a v_101 R_102 S
        obtain ⟨rfl, GR_102⟩ := RepV.int R_102
        refine wpList_nil ?_
        exact RPost.mk_ S rfl S0 ⟨rfl, GR_102⟩ (Below.refl _ _)
      refine RunAll.cons (isI .u8 t_20) [(isI .u16 x0.1, 20)] rfl rfl ?_ ?_
      · intro W_ hW
        have S1 := S
        rintro _ ⟨rfl, hF_103⟩
        replace S1 := S1.put (by decide : 20 < 61) (.int .u16 x0.1)
        refine fill_nil S1 ?_; clear S1; intro a_ S1
        replace W := W.step hW
        have S0 := S.defers; replace S := S1; clear S1
        refine w_go S rfl (op_call (vs := [.int .u16 x0.1]) S rfl cb42 rfl rfl rfl (c42 (Kx K w.heap.size [some b_1]) n W_ x0.1 hF_103 et_20) ?_)
        rintro _ w_108 ⟨v_105, rfl, R_106, hb_107⟩; refine ⟨_, rfl, ?_⟩
        replace R_106 := RepV.back R_106 W
        clear S; intro a S
        obtain ⟨rfl, GR_106⟩ := RepV.int R_106
        refine wpList_nil ?_
        exact RPost.mk_ S rfl S0 ⟨rfl, GR_106⟩ (hb_107)
      refine RunAll.cons (eqv (.pointer (some ((⟨b_1, 0, .none⟩ : Addr).add (coff (.pair (.int .u16) (.pair (.int .u8) (.pair (.int .u8) (.pair (.int .u8) (.pair (.int .u8) (.pair (.int .u16) (.pair (.int .u16) (.pair (.int .u16) (.pair (.int .u8) (.pair (.int .u8) (.pair (.int .u8) (.int .u8)))))))))))) 0))))) [] rfl rfl ?_ ?_
      · intro W_ hW
        have S1 := S
        refine fill_nil S1 ?_; clear S1; intro a_ S1
        replace B_2 := B_2.step hW
        have S0 := S.defers; replace S := S1; clear S1
        refine wl_pure (l' := [(22, .pointer (some ((⟨b_1, 0, .none⟩ : Addr).add (coff (.pair (.int .u16) (.pair (.int .u8) (.pair (.int .u8) (.pair (.int .u8) (.pair (.int .u8) (.pair (.int .u16) (.pair (.int .u16) (.pair (.int .u16) (.pair (.int .u8) (.pair (.int .u8) (.pair (.int .u8) (.int .u8)))))))))))) 0)))), (1, .pointer (some (⟨b_1, 0, .none⟩ : Addr)))]) S tys tys_ok 1 (by kernel_rfl) ?_; clear S; intro a S
        refine wpList_nil ?_
        exact RPost.mk_ S rfl S0 rfl (Below.refl _ _)
      refine RunAll.cons (isI .u16 x0.1) [(eqv (.pointer (some ((⟨b_1, 0, .none⟩ : Addr).add (coff (.pair (.int .u16) (.pair (.int .u8) (.pair (.int .u8) (.pair (.int .u8) (.pair (.int .u8) (.pair (.int .u16) (.pair (.int .u16) (.pair (.int .u16) (.pair (.int .u8) (.pair (.int .u8) (.pair (.int .u8) (.int .u8)))))))))))) 0)))), 22)] rfl rfl ?_ ?_
      · intro W_ hW
        have S1 := S
        intro v_110 hF_109; obtain rfl : .pointer (some ((⟨b_1, 0, .none⟩ : Addr).add (coff (.pair (.int .u16) (.pair (.int .u8) (.pair (.int .u8) (.pair (.int .u8) (.pair (.int .u8) (.pair (.int .u16) (.pair (.int .u16) (.pair (.int .u16) (.pair (.int .u8) (.pair (.int .u8) (.pair (.int .u8) (.int .u8)))))))))))) 0))) = v_110 := Eq.symm hF_109
        replace S1 := S1.put (by decide : 22 < 61) (.pointer (some ((⟨b_1, 0, .none⟩ : Addr).add (coff (.pair (.int .u16) (.pair (.int .u8) (.pair (.int .u8) (.pair (.int .u8) (.pair (.int .u8) (.pair (.int .u16) (.pair (.int .u16) (.pair (.int .u16) (.pair (.int .u8) (.pair (.int .u8) (.pair (.int .u8) (.int .u8)))))))))))) 0))))
        refine fill_nil S1 ?_; clear S1; intro a_ S1
        replace B_2 := B_2.step hW
        have S0 := S.defers; replace S := S1; clear S1
        refine w_go S rfl (op_load (t := (.int .u16)) (x := x0.1) S rfl ty33 rfl rfl rfl (RepAt.add 0 (RepAt.st B_2.at_)) ?_)
        clear S; intro a v_111 R_112 S
        obtain ⟨rfl, GR_112⟩ := RepV.int R_112
        refine wpList_nil ?_
        exact RPost.mk_ S rfl S0 ⟨rfl, GR_112⟩ (Below.refl _ _)
      refine RunAll.cons (isI .u8 t_27) [(isI .u16 x0.1, 23)] rfl rfl ?_ ?_
      · intro W_ hW
        have S1 := S
        rintro _ ⟨rfl, hF_113⟩
        replace S1 := S1.put (by decide : 23 < 61) (.int .u16 x0.1)
        refine fill_nil S1 ?_; clear S1; intro a_ S1
        replace W := W.step hW
        have S0 := S.defers; replace S := S1; clear S1
        refine w_go S rfl (op_call (vs := [.int .u16 x0.1]) S rfl cb43 rfl rfl rfl (c43 (Kx K w.heap.size [some b_1]) n W_ x0.1 hF_113 et_27) ?_)
        rintro _ w_118 ⟨v_115, rfl, R_116, hb_117⟩; refine ⟨_, rfl, ?_⟩
        replace R_116 := RepV.back R_116 W
        clear S; intro a S
        obtain ⟨rfl, GR_116⟩ := RepV.int R_116
        refine wpList_nil ?_
        exact RPost.mk_ S rfl S0 ⟨rfl, GR_116⟩ (hb_117)
      refine RunAll.cons (eqv (.pointer (some ((⟨b_1, 0, .none⟩ : Addr).add (coff (.pair (.int .u16) (.pair (.int .u8) (.pair (.int .u8) (.pair (.int .u8) (.pair (.int .u8) (.pair (.int .u16) (.pair (.int .u16) (.pair (.int .u16) (.pair (.int .u8) (.pair (.int .u8) (.pair (.int .u8) (.int .u8)))))))))))) 1))))) [] rfl rfl ?_ ?_
      · intro W_ hW
        have S1 := S
        refine fill_nil S1 ?_; clear S1; intro a_ S1
        replace B_2 := B_2.step hW
        have S0 := S.defers; replace S := S1; clear S1
        refine wl_pure (l' := [(25, .pointer (some ((⟨b_1, 0, .none⟩ : Addr).add (coff (.pair (.int .u16) (.pair (.int .u8) (.pair (.int .u8) (.pair (.int .u8) (.pair (.int .u8) (.pair (.int .u16) (.pair (.int .u16) (.pair (.int .u16) (.pair (.int .u8) (.pair (.int .u8) (.pair (.int .u8) (.int .u8)))))))))))) 1)))), (1, .pointer (some (⟨b_1, 0, .none⟩ : Addr)))]) S tys tys_ok 1 (by kernel_rfl) ?_; clear S; intro a S
        refine wpList_nil ?_
        exact RPost.mk_ S rfl S0 rfl (Below.refl _ _)
      refine RunAll.cons (isI .u8 x0.2.1) [(eqv (.pointer (some ((⟨b_1, 0, .none⟩ : Addr).add (coff (.pair (.int .u16) (.pair (.int .u8) (.pair (.int .u8) (.pair (.int .u8) (.pair (.int .u8) (.pair (.int .u16) (.pair (.int .u16) (.pair (.int .u16) (.pair (.int .u8) (.pair (.int .u8) (.pair (.int .u8) (.int .u8)))))))))))) 1)))), 25)] rfl rfl ?_ ?_
      · intro W_ hW
        have S1 := S
        intro v_120 hF_119; obtain rfl : .pointer (some ((⟨b_1, 0, .none⟩ : Addr).add (coff (.pair (.int .u16) (.pair (.int .u8) (.pair (.int .u8) (.pair (.int .u8) (.pair (.int .u8) (.pair (.int .u16) (.pair (.int .u16) (.pair (.int .u16) (.pair (.int .u8) (.pair (.int .u8) (.pair (.int .u8) (.int .u8)))))))))))) 1))) = v_120 := Eq.symm hF_119
        replace S1 := S1.put (by decide : 25 < 61) (.pointer (some ((⟨b_1, 0, .none⟩ : Addr).add (coff (.pair (.int .u16) (.pair (.int .u8) (.pair (.int .u8) (.pair (.int .u8) (.pair (.int .u8) (.pair (.int .u16) (.pair (.int .u16) (.pair (.int .u16) (.pair (.int .u8) (.pair (.int .u8) (.pair (.int .u8) (.int .u8)))))))))))) 1))))
        refine fill_nil S1 ?_; clear S1; intro a_ S1
        replace B_2 := B_2.step hW
        have S0 := S.defers; replace S := S1; clear S1
        refine w_go S rfl (op_load (t := (.int .u8)) (x := x0.2.1) S rfl ty5 rfl rfl rfl (RepAt.add 1 (RepAt.st B_2.at_)) ?_)
        clear S; intro a v_121 R_122 S
        obtain ⟨rfl, GR_122⟩ := RepV.int R_122
        refine wpList_nil ?_
        exact RPost.mk_ S rfl S0 ⟨rfl, GR_122⟩ (Below.refl _ _)
      refine RunAll.cons (eqv (.pointer (some ((⟨b_1, 0, .none⟩ : Addr).add (coff (.pair (.int .u16) (.pair (.int .u8) (.pair (.int .u8) (.pair (.int .u8) (.pair (.int .u8) (.pair (.int .u16) (.pair (.int .u16) (.pair (.int .u16) (.pair (.int .u8) (.pair (.int .u8) (.pair (.int .u8) (.int .u8)))))))))))) 2))))) [] rfl rfl ?_ ?_
      · intro W_ hW
        have S1 := S
        refine fill_nil S1 ?_; clear S1; intro a_ S1
        replace B_2 := B_2.step hW
        have S0 := S.defers; replace S := S1; clear S1
        refine wl_pure (l' := [(27, .pointer (some ((⟨b_1, 0, .none⟩ : Addr).add (coff (.pair (.int .u16) (.pair (.int .u8) (.pair (.int .u8) (.pair (.int .u8) (.pair (.int .u8) (.pair (.int .u16) (.pair (.int .u16) (.pair (.int .u16) (.pair (.int .u8) (.pair (.int .u8) (.pair (.int .u8) (.int .u8)))))))))))) 2)))), (1, .pointer (some (⟨b_1, 0, .none⟩ : Addr)))]) S tys tys_ok 1 (by kernel_rfl) ?_; clear S; intro a S
        refine wpList_nil ?_
        exact RPost.mk_ S rfl S0 rfl (Below.refl _ _)
      refine RunAll.cons (isI .u8 x0.2.2.1) [(eqv (.pointer (some ((⟨b_1, 0, .none⟩ : Addr).add (coff (.pair (.int .u16) (.pair (.int .u8) (.pair (.int .u8) (.pair (.int .u8) (.pair (.int .u8) (.pair (.int .u16) (.pair (.int .u16) (.pair (.int .u16) (.pair (.int .u8) (.pair (.int .u8) (.pair (.int .u8) (.int .u8)))))))))))) 2)))), 27)] rfl rfl ?_ ?_
      · intro W_ hW
        have S1 := S
        intro v_124 hF_123; obtain rfl : .pointer (some ((⟨b_1, 0, .none⟩ : Addr).add (coff (.pair (.int .u16) (.pair (.int .u8) (.pair (.int .u8) (.pair (.int .u8) (.pair (.int .u8) (.pair (.int .u16) (.pair (.int .u16) (.pair (.int .u16) (.pair (.int .u8) (.pair (.int .u8) (.pair (.int .u8) (.int .u8)))))))))))) 2))) = v_124 := Eq.symm hF_123
        replace S1 := S1.put (by decide : 27 < 61) (.pointer (some ((⟨b_1, 0, .none⟩ : Addr).add (coff (.pair (.int .u16) (.pair (.int .u8) (.pair (.int .u8) (.pair (.int .u8) (.pair (.int .u8) (.pair (.int .u16) (.pair (.int .u16) (.pair (.int .u16) (.pair (.int .u8) (.pair (.int .u8) (.pair (.int .u8) (.int .u8)))))))))))) 2))))
        refine fill_nil S1 ?_; clear S1; intro a_ S1
        replace B_2 := B_2.step hW
        have S0 := S.defers; replace S := S1; clear S1
        refine w_go S rfl (op_load (t := (.int .u8)) (x := x0.2.2.1) S rfl ty5 rfl rfl rfl (RepAt.add 2 (RepAt.st B_2.at_)) ?_)
        clear S; intro a v_125 R_126 S
        obtain ⟨rfl, GR_126⟩ := RepV.int R_126
        refine wpList_nil ?_
        exact RPost.mk_ S rfl S0 ⟨rfl, GR_126⟩ (Below.refl _ _)
      refine RunAll.cons (eqv (.pointer (some ((⟨b_1, 0, .none⟩ : Addr).add (coff (.pair (.int .u16) (.pair (.int .u8) (.pair (.int .u8) (.pair (.int .u8) (.pair (.int .u8) (.pair (.int .u16) (.pair (.int .u16) (.pair (.int .u16) (.pair (.int .u8) (.pair (.int .u8) (.pair (.int .u8) (.int .u8)))))))))))) 3))))) [] rfl rfl ?_ ?_
      · intro W_ hW
        have S1 := S
        refine fill_nil S1 ?_; clear S1; intro a_ S1
        replace B_2 := B_2.step hW
        have S0 := S.defers; replace S := S1; clear S1
        refine wl_pure (l' := [(29, .pointer (some ((⟨b_1, 0, .none⟩ : Addr).add (coff (.pair (.int .u16) (.pair (.int .u8) (.pair (.int .u8) (.pair (.int .u8) (.pair (.int .u8) (.pair (.int .u16) (.pair (.int .u16) (.pair (.int .u16) (.pair (.int .u8) (.pair (.int .u8) (.pair (.int .u8) (.int .u8)))))))))))) 3)))), (1, .pointer (some (⟨b_1, 0, .none⟩ : Addr)))]) S tys tys_ok 1 (by kernel_rfl) ?_; clear S; intro a S
        refine wpList_nil ?_
        exact RPost.mk_ S rfl S0 rfl (Below.refl _ _)
      refine RunAll.cons (isI .u8 x0.2.2.2.1) [(eqv (.pointer (some ((⟨b_1, 0, .none⟩ : Addr).add (coff (.pair (.int .u16) (.pair (.int .u8) (.pair (.int .u8) (.pair (.int .u8) (.pair (.int .u8) (.pair (.int .u16) (.pair (.int .u16) (.pair (.int .u16) (.pair (.int .u8) (.pair (.int .u8) (.pair (.int .u8) (.int .u8)))))))))))) 3)))), 29)] rfl rfl ?_ ?_
      · intro W_ hW
        have S1 := S
        intro v_128 hF_127; obtain rfl : .pointer (some ((⟨b_1, 0, .none⟩ : Addr).add (coff (.pair (.int .u16) (.pair (.int .u8) (.pair (.int .u8) (.pair (.int .u8) (.pair (.int .u8) (.pair (.int .u16) (.pair (.int .u16) (.pair (.int .u16) (.pair (.int .u8) (.pair (.int .u8) (.pair (.int .u8) (.int .u8)))))))))))) 3))) = v_128 := Eq.symm hF_127
        replace S1 := S1.put (by decide : 29 < 61) (.pointer (some ((⟨b_1, 0, .none⟩ : Addr).add (coff (.pair (.int .u16) (.pair (.int .u8) (.pair (.int .u8) (.pair (.int .u8) (.pair (.int .u8) (.pair (.int .u16) (.pair (.int .u16) (.pair (.int .u16) (.pair (.int .u8) (.pair (.int .u8) (.pair (.int .u8) (.int .u8)))))))))))) 3))))
        refine fill_nil S1 ?_; clear S1; intro a_ S1
        replace B_2 := B_2.step hW
        have S0 := S.defers; replace S := S1; clear S1
        refine w_go S rfl (op_load (t := (.int .u8)) (x := x0.2.2.2.1) S rfl ty5 rfl rfl rfl (RepAt.add 3 (RepAt.st B_2.at_)) ?_)
        clear S; intro a v_129 R_130 S
        obtain ⟨rfl, GR_130⟩ := RepV.int R_130
        refine wpList_nil ?_
        exact RPost.mk_ S rfl S0 ⟨rfl, GR_130⟩ (Below.refl _ _)
      refine RunAll.cons (eqv (.pointer (some ((⟨b_1, 0, .none⟩ : Addr).add (coff (.pair (.int .u16) (.pair (.int .u8) (.pair (.int .u8) (.pair (.int .u8) (.pair (.int .u8) (.pair (.int .u16) (.pair (.int .u16) (.pair (.int .u16) (.pair (.int .u8) (.pair (.int .u8) (.pair (.int .u8) (.int .u8)))))))))))) 4))))) [] rfl rfl ?_ ?_
      · intro W_ hW
        have S1 := S
        refine fill_nil S1 ?_; clear S1; intro a_ S1
        replace B_2 := B_2.step hW
        have S0 := S.defers; replace S := S1; clear S1
        refine wl_pure (l' := [(31, .pointer (some ((⟨b_1, 0, .none⟩ : Addr).add (coff (.pair (.int .u16) (.pair (.int .u8) (.pair (.int .u8) (.pair (.int .u8) (.pair (.int .u8) (.pair (.int .u16) (.pair (.int .u16) (.pair (.int .u16) (.pair (.int .u8) (.pair (.int .u8) (.pair (.int .u8) (.int .u8)))))))))))) 4)))), (1, .pointer (some (⟨b_1, 0, .none⟩ : Addr)))]) S tys tys_ok 1 (by kernel_rfl) ?_; clear S; intro a S
        refine wpList_nil ?_
        exact RPost.mk_ S rfl S0 rfl (Below.refl _ _)
      refine RunAll.cons (isI .u8 x0.2.2.2.2.1) [(eqv (.pointer (some ((⟨b_1, 0, .none⟩ : Addr).add (coff (.pair (.int .u16) (.pair (.int .u8) (.pair (.int .u8) (.pair (.int .u8) (.pair (.int .u8) (.pair (.int .u16) (.pair (.int .u16) (.pair (.int .u16) (.pair (.int .u8) (.pair (.int .u8) (.pair (.int .u8) (.int .u8)))))))))))) 4)))), 31)] rfl rfl ?_ ?_
      · intro W_ hW
        have S1 := S
        intro v_132 hF_131; obtain rfl : .pointer (some ((⟨b_1, 0, .none⟩ : Addr).add (coff (.pair (.int .u16) (.pair (.int .u8) (.pair (.int .u8) (.pair (.int .u8) (.pair (.int .u8) (.pair (.int .u16) (.pair (.int .u16) (.pair (.int .u16) (.pair (.int .u8) (.pair (.int .u8) (.pair (.int .u8) (.int .u8)))))))))))) 4))) = v_132 := Eq.symm hF_131
        replace S1 := S1.put (by decide : 31 < 61) (.pointer (some ((⟨b_1, 0, .none⟩ : Addr).add (coff (.pair (.int .u16) (.pair (.int .u8) (.pair (.int .u8) (.pair (.int .u8) (.pair (.int .u8) (.pair (.int .u16) (.pair (.int .u16) (.pair (.int .u16) (.pair (.int .u8) (.pair (.int .u8) (.pair (.int .u8) (.int .u8)))))))))))) 4))))
        refine fill_nil S1 ?_; clear S1; intro a_ S1
        replace B_2 := B_2.step hW
        have S0 := S.defers; replace S := S1; clear S1
        refine w_go S rfl (op_load (t := (.int .u8)) (x := x0.2.2.2.2.1) S rfl ty5 rfl rfl rfl (RepAt.add 4 (RepAt.st B_2.at_)) ?_)
        clear S; intro a v_133 R_134 S
        obtain ⟨rfl, GR_134⟩ := RepV.int R_134
        refine wpList_nil ?_
        exact RPost.mk_ S rfl S0 ⟨rfl, GR_134⟩ (Below.refl _ _)
      refine RunAll.cons (eqv (.pointer (some ((⟨b_1, 0, .none⟩ : Addr).add (coff (.pair (.int .u16) (.pair (.int .u8) (.pair (.int .u8) (.pair (.int .u8) (.pair (.int .u8) (.pair (.int .u16) (.pair (.int .u16) (.pair (.int .u16) (.pair (.int .u8) (.pair (.int .u8) (.pair (.int .u8) (.int .u8)))))))))))) 5))))) [] rfl rfl ?_ ?_
      · intro W_ hW
        have S1 := S
        refine fill_nil S1 ?_; clear S1; intro a_ S1
        replace B_2 := B_2.step hW
        have S0 := S.defers; replace S := S1; clear S1
        refine wl_pure (l' := [(33, .pointer (some ((⟨b_1, 0, .none⟩ : Addr).add (coff (.pair (.int .u16) (.pair (.int .u8) (.pair (.int .u8) (.pair (.int .u8) (.pair (.int .u8) (.pair (.int .u16) (.pair (.int .u16) (.pair (.int .u16) (.pair (.int .u8) (.pair (.int .u8) (.pair (.int .u8) (.int .u8)))))))))))) 5)))), (1, .pointer (some (⟨b_1, 0, .none⟩ : Addr)))]) S tys tys_ok 1 (by kernel_rfl) ?_; clear S; intro a S
        refine wpList_nil ?_
        exact RPost.mk_ S rfl S0 rfl (Below.refl _ _)
      refine RunAll.cons (isI .u16 x0.2.2.2.2.2.1) [(eqv (.pointer (some ((⟨b_1, 0, .none⟩ : Addr).add (coff (.pair (.int .u16) (.pair (.int .u8) (.pair (.int .u8) (.pair (.int .u8) (.pair (.int .u8) (.pair (.int .u16) (.pair (.int .u16) (.pair (.int .u16) (.pair (.int .u8) (.pair (.int .u8) (.pair (.int .u8) (.int .u8)))))))))))) 5)))), 33)] rfl rfl ?_ ?_
      · intro W_ hW
        have S1 := S
        intro v_136 hF_135; obtain rfl : .pointer (some ((⟨b_1, 0, .none⟩ : Addr).add (coff (.pair (.int .u16) (.pair (.int .u8) (.pair (.int .u8) (.pair (.int .u8) (.pair (.int .u8) (.pair (.int .u16) (.pair (.int .u16) (.pair (.int .u16) (.pair (.int .u8) (.pair (.int .u8) (.pair (.int .u8) (.int .u8)))))))))))) 5))) = v_136 := Eq.symm hF_135
        replace S1 := S1.put (by decide : 33 < 61) (.pointer (some ((⟨b_1, 0, .none⟩ : Addr).add (coff (.pair (.int .u16) (.pair (.int .u8) (.pair (.int .u8) (.pair (.int .u8) (.pair (.int .u8) (.pair (.int .u16) (.pair (.int .u16) (.pair (.int .u16) (.pair (.int .u8) (.pair (.int .u8) (.pair (.int .u8) (.int .u8)))))))))))) 5))))
        refine fill_nil S1 ?_; clear S1; intro a_ S1
        replace B_2 := B_2.step hW
        have S0 := S.defers; replace S := S1; clear S1
        refine w_go S rfl (op_load (t := (.int .u16)) (x := x0.2.2.2.2.2.1) S rfl ty33 rfl rfl rfl (RepAt.add 5 (RepAt.st B_2.at_)) ?_)
        clear S; intro a v_137 R_138 S
        obtain ⟨rfl, GR_138⟩ := RepV.int R_138
        refine wpList_nil ?_
        exact RPost.mk_ S rfl S0 ⟨rfl, GR_138⟩ (Below.refl _ _)
      refine RunAll.cons (isI .u8 t_42) [(isI .u16 x0.2.2.2.2.2.1, 34)] rfl rfl ?_ ?_
      · intro W_ hW
        have S1 := S
        rintro _ ⟨rfl, hF_139⟩
        replace S1 := S1.put (by decide : 34 < 61) (.int .u16 x0.2.2.2.2.2.1)
        refine fill_nil S1 ?_; clear S1; intro a_ S1
        replace W := W.step hW
        have S0 := S.defers; replace S := S1; clear S1
        refine w_go S rfl (op_call (vs := [.int .u16 x0.2.2.2.2.2.1]) S rfl cb42 rfl rfl rfl (c42 (Kx K w.heap.size [some b_1]) n W_ x0.2.2.2.2.2.1 hF_139 et_42) ?_)
        rintro _ w_144 ⟨v_141, rfl, R_142, hb_143⟩; refine ⟨_, rfl, ?_⟩
        replace R_142 := RepV.back R_142 W
        clear S; intro a S
        obtain ⟨rfl, GR_142⟩ := RepV.int R_142
        refine wpList_nil ?_
        exact RPost.mk_ S rfl S0 ⟨rfl, GR_142⟩ (hb_143)
      refine RunAll.cons (eqv (.pointer (some ((⟨b_1, 0, .none⟩ : Addr).add (coff (.pair (.int .u16) (.pair (.int .u8) (.pair (.int .u8) (.pair (.int .u8) (.pair (.int .u8) (.pair (.int .u16) (.pair (.int .u16) (.pair (.int .u16) (.pair (.int .u8) (.pair (.int .u8) (.pair (.int .u8) (.int .u8)))))))))))) 5))))) [] rfl rfl ?_ ?_
      · intro W_ hW
        have S1 := S
        refine fill_nil S1 ?_; clear S1; intro a_ S1
        replace B_2 := B_2.step hW
        have S0 := S.defers; replace S := S1; clear S1
        refine wl_pure (l' := [(36, .pointer (some ((⟨b_1, 0, .none⟩ : Addr).add (coff (.pair (.int .u16) (.pair (.int .u8) (.pair (.int .u8) (.pair (.int .u8) (.pair (.int .u8) (.pair (.int .u16) (.pair (.int .u16) (.pair (.int .u16) (.pair (.int .u8) (.pair (.int .u8) (.pair (.int .u8) (.int .u8)))))))))))) 5)))), (1, .pointer (some (⟨b_1, 0, .none⟩ : Addr)))]) S tys tys_ok 1 (by kernel_rfl) ?_; clear S; intro a S
        refine wpList_nil ?_
        exact RPost.mk_ S rfl S0 rfl (Below.refl _ _)
      refine RunAll.cons (isI .u16 x0.2.2.2.2.2.1) [(eqv (.pointer (some ((⟨b_1, 0, .none⟩ : Addr).add (coff (.pair (.int .u16) (.pair (.int .u8) (.pair (.int .u8) (.pair (.int .u8) (.pair (.int .u8) (.pair (.int .u16) (.pair (.int .u16) (.pair (.int .u16) (.pair (.int .u8) (.pair (.int .u8) (.pair (.int .u8) (.int .u8)))))))))))) 5)))), 36)] rfl rfl ?_ ?_
      · intro W_ hW
        have S1 := S
        intro v_146 hF_145; obtain rfl : .pointer (some ((⟨b_1, 0, .none⟩ : Addr).add (coff (.pair (.int .u16) (.pair (.int .u8) (.pair (.int .u8) (.pair (.int .u8) (.pair (.int .u8) (.pair (.int .u16) (.pair (.int .u16) (.pair (.int .u16) (.pair (.int .u8) (.pair (.int .u8) (.pair (.int .u8) (.int .u8)))))))))))) 5))) = v_146 := Eq.symm hF_145
        replace S1 := S1.put (by decide : 36 < 61) (.pointer (some ((⟨b_1, 0, .none⟩ : Addr).add (coff (.pair (.int .u16) (.pair (.int .u8) (.pair (.int .u8) (.pair (.int .u8) (.pair (.int .u8) (.pair (.int .u16) (.pair (.int .u16) (.pair (.int .u16) (.pair (.int .u8) (.pair (.int .u8) (.pair (.int .u8) (.int .u8)))))))))))) 5))))
        refine fill_nil S1 ?_; clear S1; intro a_ S1
        replace B_2 := B_2.step hW
        have S0 := S.defers; replace S := S1; clear S1
        refine w_go S rfl (op_load (t := (.int .u16)) (x := x0.2.2.2.2.2.1) S rfl ty33 rfl rfl rfl (RepAt.add 5 (RepAt.st B_2.at_)) ?_)
        clear S; intro a v_147 R_148 S
        obtain ⟨rfl, GR_148⟩ := RepV.int R_148
        refine wpList_nil ?_
        exact RPost.mk_ S rfl S0 ⟨rfl, GR_148⟩ (Below.refl _ _)
      refine RunAll.cons (isI .u8 t_49) [(isI .u16 x0.2.2.2.2.2.1, 37)] rfl rfl ?_ ?_
      · intro W_ hW
        have S1 := S
        rintro _ ⟨rfl, hF_149⟩
        replace S1 := S1.put (by decide : 37 < 61) (.int .u16 x0.2.2.2.2.2.1)
        refine fill_nil S1 ?_; clear S1; intro a_ S1
        replace W := W.step hW
        have S0 := S.defers; replace S := S1; clear S1
        refine w_go S rfl (op_call (vs := [.int .u16 x0.2.2.2.2.2.1]) S rfl cb43 rfl rfl rfl (c43 (Kx K w.heap.size [some b_1]) n W_ x0.2.2.2.2.2.1 hF_149 et_49) ?_)
        rintro _ w_154 ⟨v_151, rfl, R_152, hb_153⟩; refine ⟨_, rfl, ?_⟩
        replace R_152 := RepV.back R_152 W
        clear S; intro a S
        obtain ⟨rfl, GR_152⟩ := RepV.int R_152
        refine wpList_nil ?_
        exact RPost.mk_ S rfl S0 ⟨rfl, GR_152⟩ (hb_153)
      refine RunAll.cons (eqv (.pointer (some ((⟨b_1, 0, .none⟩ : Addr).add (coff (.pair (.int .u16) (.pair (.int .u8) (.pair (.int .u8) (.pair (.int .u8) (.pair (.int .u8) (.pair (.int .u16) (.pair (.int .u16) (.pair (.int .u16) (.pair (.int .u8) (.pair (.int .u8) (.pair (.int .u8) (.int .u8)))))))))))) 6))))) [] rfl rfl ?_ ?_
      · intro W_ hW
        have S1 := S
        refine fill_nil S1 ?_; clear S1; intro a_ S1
        replace B_2 := B_2.step hW
        have S0 := S.defers; replace S := S1; clear S1
        refine wl_pure (l' := [(39, .pointer (some ((⟨b_1, 0, .none⟩ : Addr).add (coff (.pair (.int .u16) (.pair (.int .u8) (.pair (.int .u8) (.pair (.int .u8) (.pair (.int .u8) (.pair (.int .u16) (.pair (.int .u16) (.pair (.int .u16) (.pair (.int .u8) (.pair (.int .u8) (.pair (.int .u8) (.int .u8)))))))))))) 6)))), (1, .pointer (some (⟨b_1, 0, .none⟩ : Addr)))]) S tys tys_ok 1 (by kernel_rfl) ?_; clear S; intro a S
        refine wpList_nil ?_
        exact RPost.mk_ S rfl S0 rfl (Below.refl _ _)
      refine RunAll.cons (isI .u16 x0.2.2.2.2.2.2.1) [(eqv (.pointer (some ((⟨b_1, 0, .none⟩ : Addr).add (coff (.pair (.int .u16) (.pair (.int .u8) (.pair (.int .u8) (.pair (.int .u8) (.pair (.int .u8) (.pair (.int .u16) (.pair (.int .u16) (.pair (.int .u16) (.pair (.int .u8) (.pair (.int .u8) (.pair (.int .u8) (.int .u8)))))))))))) 6)))), 39)] rfl rfl ?_ ?_
      · intro W_ hW
        have S1 := S
        intro v_156 hF_155; obtain rfl : .pointer (some ((⟨b_1, 0, .none⟩ : Addr).add (coff (.pair (.int .u16) (.pair (.int .u8) (.pair (.int .u8) (.pair (.int .u8) (.pair (.int .u8) (.pair (.int .u16) (.pair (.int .u16) (.pair (.int .u16) (.pair (.int .u8) (.pair (.int .u8) (.pair (.int .u8) (.int .u8)))))))))))) 6))) = v_156 := Eq.symm hF_155
        replace S1 := S1.put (by decide : 39 < 61) (.pointer (some ((⟨b_1, 0, .none⟩ : Addr).add (coff (.pair (.int .u16) (.pair (.int .u8) (.pair (.int .u8) (.pair (.int .u8) (.pair (.int .u8) (.pair (.int .u16) (.pair (.int .u16) (.pair (.int .u16) (.pair (.int .u8) (.pair (.int .u8) (.pair (.int .u8) (.int .u8)))))))))))) 6))))
        refine fill_nil S1 ?_; clear S1; intro a_ S1
        replace B_2 := B_2.step hW
        have S0 := S.defers; replace S := S1; clear S1
        refine w_go S rfl (op_load (t := (.int .u16)) (x := x0.2.2.2.2.2.2.1) S rfl ty33 rfl rfl rfl (RepAt.add 6 (RepAt.st B_2.at_)) ?_)
        clear S; intro a v_157 R_158 S
        obtain ⟨rfl, GR_158⟩ := RepV.int R_158
        refine wpList_nil ?_
        exact RPost.mk_ S rfl S0 ⟨rfl, GR_158⟩ (Below.refl _ _)
      refine RunAll.cons (isI .u8 t_56) [(isI .u16 x0.2.2.2.2.2.2.1, 40)] rfl rfl ?_ ?_
      · intro W_ hW
        have S1 := S
        rintro _ ⟨rfl, hF_159⟩
        replace S1 := S1.put (by decide : 40 < 61) (.int .u16 x0.2.2.2.2.2.2.1)
        refine fill_nil S1 ?_; clear S1; intro a_ S1
        replace W := W.step hW
        have S0 := S.defers; replace S := S1; clear S1
        refine w_go S rfl (op_call (vs := [.int .u16 x0.2.2.2.2.2.2.1]) S rfl cb42 rfl rfl rfl (c42 (Kx K w.heap.size [some b_1]) n W_ x0.2.2.2.2.2.2.1 hF_159 et_56) ?_)
        rintro _ w_164 ⟨v_161, rfl, R_162, hb_163⟩; refine ⟨_, rfl, ?_⟩
        replace R_162 := RepV.back R_162 W
        clear S; intro a S
        obtain ⟨rfl, GR_162⟩ := RepV.int R_162
        refine wpList_nil ?_
        exact RPost.mk_ S rfl S0 ⟨rfl, GR_162⟩ (hb_163)
      refine RunAll.cons (eqv (.pointer (some ((⟨b_1, 0, .none⟩ : Addr).add (coff (.pair (.int .u16) (.pair (.int .u8) (.pair (.int .u8) (.pair (.int .u8) (.pair (.int .u8) (.pair (.int .u16) (.pair (.int .u16) (.pair (.int .u16) (.pair (.int .u8) (.pair (.int .u8) (.pair (.int .u8) (.int .u8)))))))))))) 6))))) [] rfl rfl ?_ ?_
      · intro W_ hW
        have S1 := S
        refine fill_nil S1 ?_; clear S1; intro a_ S1
        replace B_2 := B_2.step hW
        have S0 := S.defers; replace S := S1; clear S1
        refine wl_pure (l' := [(42, .pointer (some ((⟨b_1, 0, .none⟩ : Addr).add (coff (.pair (.int .u16) (.pair (.int .u8) (.pair (.int .u8) (.pair (.int .u8) (.pair (.int .u8) (.pair (.int .u16) (.pair (.int .u16) (.pair (.int .u16) (.pair (.int .u8) (.pair (.int .u8) (.pair (.int .u8) (.int .u8)))))))))))) 6)))), (1, .pointer (some (⟨b_1, 0, .none⟩ : Addr)))]) S tys tys_ok 1 (by kernel_rfl) ?_; clear S; intro a S
        refine wpList_nil ?_
        exact RPost.mk_ S rfl S0 rfl (Below.refl _ _)
      refine RunAll.cons (isI .u16 x0.2.2.2.2.2.2.1) [(eqv (.pointer (some ((⟨b_1, 0, .none⟩ : Addr).add (coff (.pair (.int .u16) (.pair (.int .u8) (.pair (.int .u8) (.pair (.int .u8) (.pair (.int .u8) (.pair (.int .u16) (.pair (.int .u16) (.pair (.int .u16) (.pair (.int .u8) (.pair (.int .u8) (.pair (.int .u8) (.int .u8)))))))))))) 6)))), 42)] rfl rfl ?_ ?_
      · intro W_ hW
        have S1 := S
        intro v_166 hF_165; obtain rfl : .pointer (some ((⟨b_1, 0, .none⟩ : Addr).add (coff (.pair (.int .u16) (.pair (.int .u8) (.pair (.int .u8) (.pair (.int .u8) (.pair (.int .u8) (.pair (.int .u16) (.pair (.int .u16) (.pair (.int .u16) (.pair (.int .u8) (.pair (.int .u8) (.pair (.int .u8) (.int .u8)))))))))))) 6))) = v_166 := Eq.symm hF_165
        replace S1 := S1.put (by decide : 42 < 61) (.pointer (some ((⟨b_1, 0, .none⟩ : Addr).add (coff (.pair (.int .u16) (.pair (.int .u8) (.pair (.int .u8) (.pair (.int .u8) (.pair (.int .u8) (.pair (.int .u16) (.pair (.int .u16) (.pair (.int .u16) (.pair (.int .u8) (.pair (.int .u8) (.pair (.int .u8) (.int .u8)))))))))))) 6))))
        refine fill_nil S1 ?_; clear S1; intro a_ S1
        replace B_2 := B_2.step hW
        have S0 := S.defers; replace S := S1; clear S1
        refine w_go S rfl (op_load (t := (.int .u16)) (x := x0.2.2.2.2.2.2.1) S rfl ty33 rfl rfl rfl (RepAt.add 6 (RepAt.st B_2.at_)) ?_)
        clear S; intro a v_167 R_168 S
        obtain ⟨rfl, GR_168⟩ := RepV.int R_168
        refine wpList_nil ?_
        exact RPost.mk_ S rfl S0 ⟨rfl, GR_168⟩ (Below.refl _ _)
      refine RunAll.cons (isI .u8 t_63) [(isI .u16 x0.2.2.2.2.2.2.1, 43)] rfl rfl ?_ ?_
      · intro W_ hW
        have S1 := S
        rintro _ ⟨rfl, hF_169⟩
        replace S1 := S1.put (by decide : 43 < 61) (.int .u16 x0.2.2.2.2.2.2.1)
        refine fill_nil S1 ?_; clear S1; intro a_ S1
        replace W := W.step hW
        have S0 := S.defers; replace S := S1; clear S1
        refine w_go S rfl (op_call (vs := [.int .u16 x0.2.2.2.2.2.2.1]) S rfl cb43 rfl rfl rfl (c43 (Kx K w.heap.size [some b_1]) n W_ x0.2.2.2.2.2.2.1 hF_169 et_63) ?_)
        rintro _ w_174 ⟨v_171, rfl, R_172, hb_173⟩; refine ⟨_, rfl, ?_⟩
        replace R_172 := RepV.back R_172 W
        clear S; intro a S
        obtain ⟨rfl, GR_172⟩ := RepV.int R_172
        refine wpList_nil ?_
        exact RPost.mk_ S rfl S0 ⟨rfl, GR_172⟩ (hb_173)
      refine RunAll.cons (eqv (.pointer (some ((⟨b_1, 0, .none⟩ : Addr).add (coff (.pair (.int .u16) (.pair (.int .u8) (.pair (.int .u8) (.pair (.int .u8) (.pair (.int .u8) (.pair (.int .u16) (.pair (.int .u16) (.pair (.int .u16) (.pair (.int .u8) (.pair (.int .u8) (.pair (.int .u8) (.int .u8)))))))))))) 7))))) [] rfl rfl ?_ ?_
      · intro W_ hW
        have S1 := S
        refine fill_nil S1 ?_; clear S1; intro a_ S1
        replace B_2 := B_2.step hW
        have S0 := S.defers; replace S := S1; clear S1
        refine wl_pure (l' := [(45, .pointer (some ((⟨b_1, 0, .none⟩ : Addr).add (coff (.pair (.int .u16) (.pair (.int .u8) (.pair (.int .u8) (.pair (.int .u8) (.pair (.int .u8) (.pair (.int .u16) (.pair (.int .u16) (.pair (.int .u16) (.pair (.int .u8) (.pair (.int .u8) (.pair (.int .u8) (.int .u8)))))))))))) 7)))), (1, .pointer (some (⟨b_1, 0, .none⟩ : Addr)))]) S tys tys_ok 1 (by kernel_rfl) ?_; clear S; intro a S
        refine wpList_nil ?_
        exact RPost.mk_ S rfl S0 rfl (Below.refl _ _)
      refine RunAll.cons (isI .u16 x0.2.2.2.2.2.2.2.1) [(eqv (.pointer (some ((⟨b_1, 0, .none⟩ : Addr).add (coff (.pair (.int .u16) (.pair (.int .u8) (.pair (.int .u8) (.pair (.int .u8) (.pair (.int .u8) (.pair (.int .u16) (.pair (.int .u16) (.pair (.int .u16) (.pair (.int .u8) (.pair (.int .u8) (.pair (.int .u8) (.int .u8)))))))))))) 7)))), 45)] rfl rfl ?_ ?_
      · intro W_ hW
        have S1 := S
        intro v_176 hF_175; obtain rfl : .pointer (some ((⟨b_1, 0, .none⟩ : Addr).add (coff (.pair (.int .u16) (.pair (.int .u8) (.pair (.int .u8) (.pair (.int .u8) (.pair (.int .u8) (.pair (.int .u16) (.pair (.int .u16) (.pair (.int .u16) (.pair (.int .u8) (.pair (.int .u8) (.pair (.int .u8) (.int .u8)))))))))))) 7))) = v_176 := Eq.symm hF_175
        replace S1 := S1.put (by decide : 45 < 61) (.pointer (some ((⟨b_1, 0, .none⟩ : Addr).add (coff (.pair (.int .u16) (.pair (.int .u8) (.pair (.int .u8) (.pair (.int .u8) (.pair (.int .u8) (.pair (.int .u16) (.pair (.int .u16) (.pair (.int .u16) (.pair (.int .u8) (.pair (.int .u8) (.pair (.int .u8) (.int .u8)))))))))))) 7))))
        refine fill_nil S1 ?_; clear S1; intro a_ S1
        replace B_2 := B_2.step hW
        have S0 := S.defers; replace S := S1; clear S1
        refine w_go S rfl (op_load (t := (.int .u16)) (x := x0.2.2.2.2.2.2.2.1) S rfl ty33 rfl rfl rfl (RepAt.add 7 (RepAt.st B_2.at_)) ?_)
        clear S; intro a v_177 R_178 S
        obtain ⟨rfl, GR_178⟩ := RepV.int R_178
        refine wpList_nil ?_
        exact RPost.mk_ S rfl S0 ⟨rfl, GR_178⟩ (Below.refl _ _)
      refine RunAll.cons (isI .u8 t_70) [(isI .u16 x0.2.2.2.2.2.2.2.1, 46)] rfl rfl ?_ ?_
      · intro W_ hW
        have S1 := S
        rintro _ ⟨rfl, hF_179⟩
        replace S1 := S1.put (by decide : 46 < 61) (.int .u16 x0.2.2.2.2.2.2.2.1)
        refine fill_nil S1 ?_; clear S1; intro a_ S1
        replace W := W.step hW
        have S0 := S.defers; replace S := S1; clear S1
        refine w_go S rfl (op_call (vs := [.int .u16 x0.2.2.2.2.2.2.2.1]) S rfl cb42 rfl rfl rfl (c42 (Kx K w.heap.size [some b_1]) n W_ x0.2.2.2.2.2.2.2.1 hF_179 et_70) ?_)
        rintro _ w_184 ⟨v_181, rfl, R_182, hb_183⟩; refine ⟨_, rfl, ?_⟩
        replace R_182 := RepV.back R_182 W
        clear S; intro a S
        obtain ⟨rfl, GR_182⟩ := RepV.int R_182
        refine wpList_nil ?_
        exact RPost.mk_ S rfl S0 ⟨rfl, GR_182⟩ (hb_183)
      refine RunAll.cons (eqv (.pointer (some ((⟨b_1, 0, .none⟩ : Addr).add (coff (.pair (.int .u16) (.pair (.int .u8) (.pair (.int .u8) (.pair (.int .u8) (.pair (.int .u8) (.pair (.int .u16) (.pair (.int .u16) (.pair (.int .u16) (.pair (.int .u8) (.pair (.int .u8) (.pair (.int .u8) (.int .u8)))))))))))) 7))))) [] rfl rfl ?_ ?_
      · intro W_ hW
        have S1 := S
        refine fill_nil S1 ?_; clear S1; intro a_ S1
        replace B_2 := B_2.step hW
        have S0 := S.defers; replace S := S1; clear S1
        refine wl_pure (l' := [(48, .pointer (some ((⟨b_1, 0, .none⟩ : Addr).add (coff (.pair (.int .u16) (.pair (.int .u8) (.pair (.int .u8) (.pair (.int .u8) (.pair (.int .u8) (.pair (.int .u16) (.pair (.int .u16) (.pair (.int .u16) (.pair (.int .u8) (.pair (.int .u8) (.pair (.int .u8) (.int .u8)))))))))))) 7)))), (1, .pointer (some (⟨b_1, 0, .none⟩ : Addr)))]) S tys tys_ok 1 (by kernel_rfl) ?_; clear S; intro a S
        refine wpList_nil ?_
        exact RPost.mk_ S rfl S0 rfl (Below.refl _ _)
      refine RunAll.cons (isI .u16 x0.2.2.2.2.2.2.2.1) [(eqv (.pointer (some ((⟨b_1, 0, .none⟩ : Addr).add (coff (.pair (.int .u16) (.pair (.int .u8) (.pair (.int .u8) (.pair (.int .u8) (.pair (.int .u8) (.pair (.int .u16) (.pair (.int .u16) (.pair (.int .u16) (.pair (.int .u8) (.pair (.int .u8) (.pair (.int .u8) (.int .u8)))))))))))) 7)))), 48)] rfl rfl ?_ ?_
      · intro W_ hW
        have S1 := S
        intro v_186 hF_185; obtain rfl : .pointer (some ((⟨b_1, 0, .none⟩ : Addr).add (coff (.pair (.int .u16) (.pair (.int .u8) (.pair (.int .u8) (.pair (.int .u8) (.pair (.int .u8) (.pair (.int .u16) (.pair (.int .u16) (.pair (.int .u16) (.pair (.int .u8) (.pair (.int .u8) (.pair (.int .u8) (.int .u8)))))))))))) 7))) = v_186 := Eq.symm hF_185
        replace S1 := S1.put (by decide : 48 < 61) (.pointer (some ((⟨b_1, 0, .none⟩ : Addr).add (coff (.pair (.int .u16) (.pair (.int .u8) (.pair (.int .u8) (.pair (.int .u8) (.pair (.int .u8) (.pair (.int .u16) (.pair (.int .u16) (.pair (.int .u16) (.pair (.int .u8) (.pair (.int .u8) (.pair (.int .u8) (.int .u8)))))))))))) 7))))
        refine fill_nil S1 ?_; clear S1; intro a_ S1
        replace B_2 := B_2.step hW
        have S0 := S.defers; replace S := S1; clear S1
        refine w_go S rfl (op_load (t := (.int .u16)) (x := x0.2.2.2.2.2.2.2.1) S rfl ty33 rfl rfl rfl (RepAt.add 7 (RepAt.st B_2.at_)) ?_)
        clear S; intro a v_187 R_188 S
        obtain ⟨rfl, GR_188⟩ := RepV.int R_188
        refine wpList_nil ?_
        exact RPost.mk_ S rfl S0 ⟨rfl, GR_188⟩ (Below.refl _ _)
      refine RunAll.cons (isI .u8 t_77) [(isI .u16 x0.2.2.2.2.2.2.2.1, 49)] rfl rfl ?_ ?_
      · intro W_ hW
        have S1 := S
        rintro _ ⟨rfl, hF_189⟩
        replace S1 := S1.put (by decide : 49 < 61) (.int .u16 x0.2.2.2.2.2.2.2.1)
        refine fill_nil S1 ?_; clear S1; intro a_ S1
        replace W := W.step hW
        have S0 := S.defers; replace S := S1; clear S1
        refine w_go S rfl (op_call (vs := [.int .u16 x0.2.2.2.2.2.2.2.1]) S rfl cb43 rfl rfl rfl (c43 (Kx K w.heap.size [some b_1]) n W_ x0.2.2.2.2.2.2.2.1 hF_189 et_77) ?_)
        rintro _ w_194 ⟨v_191, rfl, R_192, hb_193⟩; refine ⟨_, rfl, ?_⟩
        replace R_192 := RepV.back R_192 W
        clear S; intro a S
        obtain ⟨rfl, GR_192⟩ := RepV.int R_192
        refine wpList_nil ?_
        exact RPost.mk_ S rfl S0 ⟨rfl, GR_192⟩ (hb_193)
      refine RunAll.cons (eqv (.pointer (some ((⟨b_1, 0, .none⟩ : Addr).add (coff (.pair (.int .u16) (.pair (.int .u8) (.pair (.int .u8) (.pair (.int .u8) (.pair (.int .u8) (.pair (.int .u16) (.pair (.int .u16) (.pair (.int .u16) (.pair (.int .u8) (.pair (.int .u8) (.pair (.int .u8) (.int .u8)))))))))))) 8))))) [] rfl rfl ?_ ?_
      · intro W_ hW
        have S1 := S
        refine fill_nil S1 ?_; clear S1; intro a_ S1
        replace B_2 := B_2.step hW
        have S0 := S.defers; replace S := S1; clear S1
        refine wl_pure (l' := [(51, .pointer (some ((⟨b_1, 0, .none⟩ : Addr).add (coff (.pair (.int .u16) (.pair (.int .u8) (.pair (.int .u8) (.pair (.int .u8) (.pair (.int .u8) (.pair (.int .u16) (.pair (.int .u16) (.pair (.int .u16) (.pair (.int .u8) (.pair (.int .u8) (.pair (.int .u8) (.int .u8)))))))))))) 8)))), (1, .pointer (some (⟨b_1, 0, .none⟩ : Addr)))]) S tys tys_ok 1 (by kernel_rfl) ?_; clear S; intro a S
        refine wpList_nil ?_
        exact RPost.mk_ S rfl S0 rfl (Below.refl _ _)
      refine RunAll.cons (isI .u8 x0.2.2.2.2.2.2.2.2.1) [(eqv (.pointer (some ((⟨b_1, 0, .none⟩ : Addr).add (coff (.pair (.int .u16) (.pair (.int .u8) (.pair (.int .u8) (.pair (.int .u8) (.pair (.int .u8) (.pair (.int .u16) (.pair (.int .u16) (.pair (.int .u16) (.pair (.int .u8) (.pair (.int .u8) (.pair (.int .u8) (.int .u8)))))))))))) 8)))), 51)] rfl rfl ?_ ?_
      · intro W_ hW
        have S1 := S
        intro v_196 hF_195; obtain rfl : .pointer (some ((⟨b_1, 0, .none⟩ : Addr).add (coff (.pair (.int .u16) (.pair (.int .u8) (.pair (.int .u8) (.pair (.int .u8) (.pair (.int .u8) (.pair (.int .u16) (.pair (.int .u16) (.pair (.int .u16) (.pair (.int .u8) (.pair (.int .u8) (.pair (.int .u8) (.int .u8)))))))))))) 8))) = v_196 := Eq.symm hF_195
        replace S1 := S1.put (by decide : 51 < 61) (.pointer (some ((⟨b_1, 0, .none⟩ : Addr).add (coff (.pair (.int .u16) (.pair (.int .u8) (.pair (.int .u8) (.pair (.int .u8) (.pair (.int .u8) (.pair (.int .u16) (.pair (.int .u16) (.pair (.int .u16) (.pair (.int .u8) (.pair (.int .u8) (.pair (.int .u8) (.int .u8)))))))))))) 8))))
        refine fill_nil S1 ?_; clear S1; intro a_ S1
        replace B_2 := B_2.step hW
        have S0 := S.defers; replace S := S1; clear S1
        refine w_go S rfl (op_load (t := (.int .u8)) (x := x0.2.2.2.2.2.2.2.2.1) S rfl ty5 rfl rfl rfl (RepAt.add 8 (RepAt.st B_2.at_)) ?_)
        clear S; intro a v_197 R_198 S
        obtain ⟨rfl, GR_198⟩ := RepV.int R_198
        refine wpList_nil ?_
        exact RPost.mk_ S rfl S0 ⟨rfl, GR_198⟩ (Below.refl _ _)
      refine RunAll.cons (eqv (.pointer (some ((⟨b_1, 0, .none⟩ : Addr).add (coff (.pair (.int .u16) (.pair (.int .u8) (.pair (.int .u8) (.pair (.int .u8) (.pair (.int .u8) (.pair (.int .u16) (.pair (.int .u16) (.pair (.int .u16) (.pair (.int .u8) (.pair (.int .u8) (.pair (.int .u8) (.int .u8)))))))))))) 9))))) [] rfl rfl ?_ ?_
      · intro W_ hW
        have S1 := S
        refine fill_nil S1 ?_; clear S1; intro a_ S1
        replace B_2 := B_2.step hW
        have S0 := S.defers; replace S := S1; clear S1
        refine wl_pure (l' := [(53, .pointer (some ((⟨b_1, 0, .none⟩ : Addr).add (coff (.pair (.int .u16) (.pair (.int .u8) (.pair (.int .u8) (.pair (.int .u8) (.pair (.int .u8) (.pair (.int .u16) (.pair (.int .u16) (.pair (.int .u16) (.pair (.int .u8) (.pair (.int .u8) (.pair (.int .u8) (.int .u8)))))))))))) 9)))), (1, .pointer (some (⟨b_1, 0, .none⟩ : Addr)))]) S tys tys_ok 1 (by kernel_rfl) ?_; clear S; intro a S
        refine wpList_nil ?_
        exact RPost.mk_ S rfl S0 rfl (Below.refl _ _)
      refine RunAll.cons (isI .u8 x0.2.2.2.2.2.2.2.2.2.1) [(eqv (.pointer (some ((⟨b_1, 0, .none⟩ : Addr).add (coff (.pair (.int .u16) (.pair (.int .u8) (.pair (.int .u8) (.pair (.int .u8) (.pair (.int .u8) (.pair (.int .u16) (.pair (.int .u16) (.pair (.int .u16) (.pair (.int .u8) (.pair (.int .u8) (.pair (.int .u8) (.int .u8)))))))))))) 9)))), 53)] rfl rfl ?_ ?_
      · intro W_ hW
        have S1 := S
        intro v_200 hF_199; obtain rfl : .pointer (some ((⟨b_1, 0, .none⟩ : Addr).add (coff (.pair (.int .u16) (.pair (.int .u8) (.pair (.int .u8) (.pair (.int .u8) (.pair (.int .u8) (.pair (.int .u16) (.pair (.int .u16) (.pair (.int .u16) (.pair (.int .u8) (.pair (.int .u8) (.pair (.int .u8) (.int .u8)))))))))))) 9))) = v_200 := Eq.symm hF_199
        replace S1 := S1.put (by decide : 53 < 61) (.pointer (some ((⟨b_1, 0, .none⟩ : Addr).add (coff (.pair (.int .u16) (.pair (.int .u8) (.pair (.int .u8) (.pair (.int .u8) (.pair (.int .u8) (.pair (.int .u16) (.pair (.int .u16) (.pair (.int .u16) (.pair (.int .u8) (.pair (.int .u8) (.pair (.int .u8) (.int .u8)))))))))))) 9))))
        refine fill_nil S1 ?_; clear S1; intro a_ S1
        replace B_2 := B_2.step hW
        have S0 := S.defers; replace S := S1; clear S1
        refine w_go S rfl (op_load (t := (.int .u8)) (x := x0.2.2.2.2.2.2.2.2.2.1) S rfl ty5 rfl rfl rfl (RepAt.add 9 (RepAt.st B_2.at_)) ?_)
        clear S; intro a v_201 R_202 S
        obtain ⟨rfl, GR_202⟩ := RepV.int R_202
        refine wpList_nil ?_
        exact RPost.mk_ S rfl S0 ⟨rfl, GR_202⟩ (Below.refl _ _)
      refine RunAll.cons (eqv (.pointer (some ((⟨b_1, 0, .none⟩ : Addr).add (coff (.pair (.int .u16) (.pair (.int .u8) (.pair (.int .u8) (.pair (.int .u8) (.pair (.int .u8) (.pair (.int .u16) (.pair (.int .u16) (.pair (.int .u16) (.pair (.int .u8) (.pair (.int .u8) (.pair (.int .u8) (.int .u8)))))))))))) 10))))) [] rfl rfl ?_ ?_
      · intro W_ hW
        have S1 := S
        refine fill_nil S1 ?_; clear S1; intro a_ S1
        replace B_2 := B_2.step hW
        have S0 := S.defers; replace S := S1; clear S1
        refine wl_pure (l' := [(55, .pointer (some ((⟨b_1, 0, .none⟩ : Addr).add (coff (.pair (.int .u16) (.pair (.int .u8) (.pair (.int .u8) (.pair (.int .u8) (.pair (.int .u8) (.pair (.int .u16) (.pair (.int .u16) (.pair (.int .u16) (.pair (.int .u8) (.pair (.int .u8) (.pair (.int .u8) (.int .u8)))))))))))) 10)))), (1, .pointer (some (⟨b_1, 0, .none⟩ : Addr)))]) S tys tys_ok 1 (by kernel_rfl) ?_; clear S; intro a S
        refine wpList_nil ?_
        exact RPost.mk_ S rfl S0 rfl (Below.refl _ _)
      refine RunAll.cons (isI .u8 x0.2.2.2.2.2.2.2.2.2.2.1) [(eqv (.pointer (some ((⟨b_1, 0, .none⟩ : Addr).add (coff (.pair (.int .u16) (.pair (.int .u8) (.pair (.int .u8) (.pair (.int .u8) (.pair (.int .u8) (.pair (.int .u16) (.pair (.int .u16) (.pair (.int .u16) (.pair (.int .u8) (.pair (.int .u8) (.pair (.int .u8) (.int .u8)))))))))))) 10)))), 55)] rfl rfl ?_ ?_
      · intro W_ hW
        have S1 := S
        intro v_204 hF_203; obtain rfl : .pointer (some ((⟨b_1, 0, .none⟩ : Addr).add (coff (.pair (.int .u16) (.pair (.int .u8) (.pair (.int .u8) (.pair (.int .u8) (.pair (.int .u8) (.pair (.int .u16) (.pair (.int .u16) (.pair (.int .u16) (.pair (.int .u8) (.pair (.int .u8) (.pair (.int .u8) (.int .u8)))))))))))) 10))) = v_204 := Eq.symm hF_203
        replace S1 := S1.put (by decide : 55 < 61) (.pointer (some ((⟨b_1, 0, .none⟩ : Addr).add (coff (.pair (.int .u16) (.pair (.int .u8) (.pair (.int .u8) (.pair (.int .u8) (.pair (.int .u8) (.pair (.int .u16) (.pair (.int .u16) (.pair (.int .u16) (.pair (.int .u8) (.pair (.int .u8) (.pair (.int .u8) (.int .u8)))))))))))) 10))))
        refine fill_nil S1 ?_; clear S1; intro a_ S1
        replace B_2 := B_2.step hW
        have S0 := S.defers; replace S := S1; clear S1
        refine w_go S rfl (op_load (t := (.int .u8)) (x := x0.2.2.2.2.2.2.2.2.2.2.1) S rfl ty5 rfl rfl rfl (RepAt.add 10 (RepAt.st B_2.at_)) ?_)
        clear S; intro a v_205 R_206 S
        obtain ⟨rfl, GR_206⟩ := RepV.int R_206
        refine wpList_nil ?_
        exact RPost.mk_ S rfl S0 ⟨rfl, GR_206⟩ (Below.refl _ _)
      refine RunAll.cons (eqv (.pointer (some ((⟨b_1, 0, .none⟩ : Addr).add (coff (.pair (.int .u16) (.pair (.int .u8) (.pair (.int .u8) (.pair (.int .u8) (.pair (.int .u8) (.pair (.int .u16) (.pair (.int .u16) (.pair (.int .u16) (.pair (.int .u8) (.pair (.int .u8) (.pair (.int .u8) (.int .u8)))))))))))) 11))))) [] rfl rfl ?_ ?_
      · intro W_ hW
        have S1 := S
        refine fill_nil S1 ?_; clear S1; intro a_ S1
        replace B_2 := B_2.step hW
        have S0 := S.defers; replace S := S1; clear S1
        refine wl_pure (l' := [(57, .pointer (some ((⟨b_1, 0, .none⟩ : Addr).add (coff (.pair (.int .u16) (.pair (.int .u8) (.pair (.int .u8) (.pair (.int .u8) (.pair (.int .u8) (.pair (.int .u16) (.pair (.int .u16) (.pair (.int .u16) (.pair (.int .u8) (.pair (.int .u8) (.pair (.int .u8) (.int .u8)))))))))))) 11)))), (1, .pointer (some (⟨b_1, 0, .none⟩ : Addr)))]) S tys tys_ok 1 (by kernel_rfl) ?_; clear S; intro a S
        refine wpList_nil ?_
        exact RPost.mk_ S rfl S0 rfl (Below.refl _ _)
      refine RunAll.cons (isI .u8 x0.2.2.2.2.2.2.2.2.2.2.2) [(eqv (.pointer (some ((⟨b_1, 0, .none⟩ : Addr).add (coff (.pair (.int .u16) (.pair (.int .u8) (.pair (.int .u8) (.pair (.int .u8) (.pair (.int .u8) (.pair (.int .u16) (.pair (.int .u16) (.pair (.int .u16) (.pair (.int .u8) (.pair (.int .u8) (.pair (.int .u8) (.int .u8)))))))))))) 11)))), 57)] rfl rfl ?_ ?_
      · intro W_ hW
        have S1 := S
        intro v_208 hF_207; obtain rfl : .pointer (some ((⟨b_1, 0, .none⟩ : Addr).add (coff (.pair (.int .u16) (.pair (.int .u8) (.pair (.int .u8) (.pair (.int .u8) (.pair (.int .u8) (.pair (.int .u16) (.pair (.int .u16) (.pair (.int .u16) (.pair (.int .u8) (.pair (.int .u8) (.pair (.int .u8) (.int .u8)))))))))))) 11))) = v_208 := Eq.symm hF_207
        replace S1 := S1.put (by decide : 57 < 61) (.pointer (some ((⟨b_1, 0, .none⟩ : Addr).add (coff (.pair (.int .u16) (.pair (.int .u8) (.pair (.int .u8) (.pair (.int .u8) (.pair (.int .u8) (.pair (.int .u16) (.pair (.int .u16) (.pair (.int .u16) (.pair (.int .u8) (.pair (.int .u8) (.pair (.int .u8) (.int .u8)))))))))))) 11))))
        refine fill_nil S1 ?_; clear S1; intro a_ S1
        replace B_2 := B_2.step hW
        have S0 := S.defers; replace S := S1; clear S1
        refine w_go S rfl (op_load (t := (.int .u8)) (x := x0.2.2.2.2.2.2.2.2.2.2.2) S rfl ty5 rfl rfl rfl (RepAt.add 11 (RepAt.st B_2.at_)) ?_)
        clear S; intro a v_209 R_210 S
        obtain ⟨rfl, GR_210⟩ := RepV.int R_210
        refine wpList_nil ?_
        exact RPost.mk_ S rfl S0 ⟨rfl, GR_210⟩ (Below.refl _ _)
      refine RunAll.cons (isRep (.sl (.int .u8)) (Kx K w.heap.size [some b_1]) (⟨[t_20, t_27, x0.2.1, x0.2.2.1, x0.2.2.2.1, x0.2.2.2.2.1, t_42, t_49, t_56, t_63, t_70, t_77, x0.2.2.2.2.2.2.2.2.1, x0.2.2.2.2.2.2.2.2.2.1, x0.2.2.2.2.2.2.2.2.2.2.1, x0.2.2.2.2.2.2.2.2.2.2.2], some 16⟩ : Sl (Int))) [(isI .u8 t_20, 21), (isI .u8 t_27, 24), (isI .u8 x0.2.1, 26), (isI .u8 x0.2.2.1, 28), (isI .u8 x0.2.2.2.1, 30), (isI .u8 x0.2.2.2.2.1, 32), (isI .u8 t_42, 35), (isI .u8 t_49, 38), (isI .u8 t_56, 41), (isI .u8 t_63, 44), (isI .u8 t_70, 47), (isI .u8 t_77, 50), (isI .u8 x0.2.2.2.2.2.2.2.2.1, 52), (isI .u8 x0.2.2.2.2.2.2.2.2.2.1, 54), (isI .u8 x0.2.2.2.2.2.2.2.2.2.2.1, 56), (isI .u8 x0.2.2.2.2.2.2.2.2.2.2.2, 58)] rfl rfl ?_ ?_
      · intro W_ hW
        have S1 := S
        rintro _ ⟨rfl, hF_211⟩
        replace S1 := S1.put (by decide : 21 < 61) (.int .u8 t_20)
        rintro _ ⟨rfl, hF_213⟩
        replace S1 := S1.put (by decide : 24 < 61) (.int .u8 t_27)
        rintro _ ⟨rfl, hF_215⟩
        replace S1 := S1.put (by decide : 26 < 61) (.int .u8 x0.2.1)
        rintro _ ⟨rfl, hF_217⟩
        replace S1 := S1.put (by decide : 28 < 61) (.int .u8 x0.2.2.1)
        rintro _ ⟨rfl, hF_219⟩
        replace S1 := S1.put (by decide : 30 < 61) (.int .u8 x0.2.2.2.1)
        rintro _ ⟨rfl, hF_221⟩
        replace S1 := S1.put (by decide : 32 < 61) (.int .u8 x0.2.2.2.2.1)
        rintro _ ⟨rfl, hF_223⟩
        replace S1 := S1.put (by decide : 35 < 61) (.int .u8 t_42)
        rintro _ ⟨rfl, hF_225⟩
        replace S1 := S1.put (by decide : 38 < 61) (.int .u8 t_49)
        rintro _ ⟨rfl, hF_227⟩
        replace S1 := S1.put (by decide : 41 < 61) (.int .u8 t_56)
        rintro _ ⟨rfl, hF_229⟩
        replace S1 := S1.put (by decide : 44 < 61) (.int .u8 t_63)
        rintro _ ⟨rfl, hF_231⟩
        replace S1 := S1.put (by decide : 47 < 61) (.int .u8 t_70)
        rintro _ ⟨rfl, hF_233⟩
        replace S1 := S1.put (by decide : 50 < 61) (.int .u8 t_77)
        rintro _ ⟨rfl, hF_235⟩
        replace S1 := S1.put (by decide : 52 < 61) (.int .u8 x0.2.2.2.2.2.2.2.2.1)
        rintro _ ⟨rfl, hF_237⟩
        replace S1 := S1.put (by decide : 54 < 61) (.int .u8 x0.2.2.2.2.2.2.2.2.2.1)
        rintro _ ⟨rfl, hF_239⟩
        replace S1 := S1.put (by decide : 56 < 61) (.int .u8 x0.2.2.2.2.2.2.2.2.2.2.1)
        rintro _ ⟨rfl, hF_241⟩
        replace S1 := S1.put (by decide : 58 < 61) (.int .u8 x0.2.2.2.2.2.2.2.2.2.2.2)
        refine fill_nil S1 ?_; clear S1; intro a_ S1
        replace W := W.step hW
        have S0 := S.defers; replace S := S1; clear S1
        refine w_go S rfl (op_buildSlice (K := K) (e := (.int .u8)) (vs := [.int .u8 t_20, .int .u8 t_27, .int .u8 x0.2.1, .int .u8 x0.2.2.1, .int .u8 x0.2.2.2.1, .int .u8 x0.2.2.2.2.1, .int .u8 t_42, .int .u8 t_49, .int .u8 t_56, .int .u8 t_63, .int .u8 t_70, .int .u8 t_77, .int .u8 x0.2.2.2.2.2.2.2.2.1, .int .u8 x0.2.2.2.2.2.2.2.2.2.1, .int .u8 x0.2.2.2.2.2.2.2.2.2.2.1, .int .u8 x0.2.2.2.2.2.2.2.2.2.2.2]) (xs := [t_20, t_27, x0.2.1, x0.2.2.1, x0.2.2.2.1, x0.2.2.2.2.1, t_42, t_49, t_56, t_63, t_70, t_77, x0.2.2.2.2.2.2.2.2.1, x0.2.2.2.2.2.2.2.2.2.1, x0.2.2.2.2.2.2.2.2.2.2.1, x0.2.2.2.2.2.2.2.2.2.2.2]) S W rfl ty23 rfl rfl (by kernel_rfl) rfl rfl rfl rfl rfl ⟨(RepV.mkInt hF_211), (RepV.mkInt hF_213), (RepV.mkInt hF_215), (RepV.mkInt hF_217), (RepV.mkInt hF_219), (RepV.mkInt hF_221), (RepV.mkInt hF_223), (RepV.mkInt hF_225), (RepV.mkInt hF_227), (RepV.mkInt hF_229), (RepV.mkInt hF_231), (RepV.mkInt hF_233), (RepV.mkInt hF_235), (RepV.mkInt hF_237), (RepV.mkInt hF_239), (RepV.mkInt hF_241), trivial⟩ ?_)
        clear S; intro a w_246 v_243 hb_245 R_244 S
        refine wpList_nil ?_
        exact RPost.mk_ S rfl S0 R_244 (hb_245)
      refine RunAll.cons (isRep (.sl (.int .u8)) (Kx K w.heap.size [some b_1]) t_94) [(isRep (.sl (.int .u8)) (Kx K w.heap.size [some b_1]) (⟨[t_20, t_27, x0.2.1, x0.2.2.1, x0.2.2.2.1, x0.2.2.2.2.1, t_42, t_49, t_56, t_63, t_70, t_77, x0.2.2.2.2.2.2.2.2.1, x0.2.2.2.2.2.2.2.2.2.1, x0.2.2.2.2.2.2.2.2.2.2.1, x0.2.2.2.2.2.2.2.2.2.2.2], some 16⟩ : Sl (Int)), 59)] rfl rfl ?_ ?_
      · intro W_ hW
        have S1 := S
        intro v_248 hF_247; replace hF_247 : RepV _ _ _ _ _ := hF_247
        replace S1 := S1.put (by decide : 59 < 61) (v_248)
        refine fill_nil S1 ?_; clear S1; intro a_ S1
        replace W := W.step hW
        have S0 := S.defers; replace S := S1; clear S1
        refine w_go S rfl (op_call (vs := [.int .u8 1, v_248]) S rfl cb41 rfl rfl rfl (c41 (Kx K w.heap.size [some b_1]) n W_ 1 (by decide) (⟨[t_20, t_27, x0.2.1, x0.2.2.1, x0.2.2.2.1, x0.2.2.2.2.1, t_42, t_49, t_56, t_63, t_70, t_77, x0.2.2.2.2.2.2.2.2.1, x0.2.2.2.2.2.2.2.2.2.1, x0.2.2.2.2.2.2.2.2.2.2.1, x0.2.2.2.2.2.2.2.2.2.2.2], some 16⟩ : Sl (Int)) _ hF_247 et_94) ?_)
        rintro _ w_252 ⟨v_249, rfl, R_250, hb_251⟩; refine ⟨_, rfl, ?_⟩
        replace R_250 := RepV.back R_250 W
        clear S; intro a S
        refine wpList_nil ?_
        exact RPost.mk_ S rfl S0 R_250 (hb_251)
      refine RunAll.cons (isRep (.sl (.int .u8)) (Kx K w.heap.size [some b_1]) t_94) [(isRep (.sl (.int .u8)) (Kx K w.heap.size [some b_1]) t_94, 60)] rfl rfl ?_ ?_
      · intro W_ hW
        have S1 := S
        intro v_254 hF_253; replace hF_253 : RepV _ _ _ _ _ := hF_253
        replace S1 := S1.put (by decide : 60 < 61) (v_254)
        refine fill_nil S1 ?_; clear S1; intro a_ S1
        have S0 := S.defers; replace S := S1; clear S1
        refine wl_pure (l' := [(2, v_254), (60, v_254), (1, .pointer (some (⟨b_1, 0, .none⟩ : Addr)))]) S tys tys_ok 1 (by kernel_rfl) ?_; clear S; intro a S
        refine wpList_nil ?_
        exact RPost.mk_ S rfl S0 hF_253 (Below.refl _ _)
      refine RunAll.cons (eqv (.int .i64 0)) [] rfl rfl ?_ ?_
      · intro W_ hW
        have S1 := S
        refine fill_nil S1 ?_; clear S1; intro a_ S1
        have S0 := S.defers; replace S := S1; clear S1
        refine wl_pure (l' := [(3, .int .i64 0), (1, .pointer (some (⟨b_1, 0, .none⟩ : Addr)))]) S tys tys_ok 1 (by kernel_rfl) ?_; clear S; intro a S
        refine wpList_nil ?_
        exact RPost.mk_ S rfl S0 rfl (Below.refl _ _)
      exact trivial
    intro w_255 hb_256
    refine EndE.some_ rfl ?_
    intro v_258 hF_257; obtain rfl : .pointer (some ((⟨b_1, 0, .none⟩ : Addr).add (coff (.pair (.int .u16) (.pair (.int .u8) (.pair (.int .u8) (.pair (.int .u8) (.pair (.int .u8) (.pair (.int .u16) (.pair (.int .u16) (.pair (.int .u16) (.pair (.int .u8) (.pair (.int .u8) (.pair (.int .u8) (.int .u8)))))))))))) 0))) = v_258 := Eq.symm hF_257
    replace S := S.put (by decide : 19 < 61) (.pointer (some ((⟨b_1, 0, .none⟩ : Addr).add (coff (.pair (.int .u16) (.pair (.int .u8) (.pair (.int .u8) (.pair (.int .u8) (.pair (.int .u8) (.pair (.int .u16) (.pair (.int .u16) (.pair (.int .u16) (.pair (.int .u8) (.pair (.int .u8) (.pair (.int .u8) (.int .u8)))))))))))) 0))))
    refine EndE.some_ rfl ?_
    rintro _ ⟨rfl, hF_259⟩
    replace S := S.put (by decide : 20 < 61) (.int .u16 x0.1)
    refine EndE.some_ rfl ?_
    rintro _ ⟨rfl, hF_261⟩
    replace S := S.put (by decide : 21 < 61) (.int .u8 t_20)
    refine EndE.some_ rfl ?_
    intro v_264 hF_263; obtain rfl : .pointer (some ((⟨b_1, 0, .none⟩ : Addr).add (coff (.pair (.int .u16) (.pair (.int .u8) (.pair (.int .u8) (.pair (.int .u8) (.pair (.int .u8) (.pair (.int .u16) (.pair (.int .u16) (.pair (.int .u16) (.pair (.int .u8) (.pair (.int .u8) (.pair (.int .u8) (.int .u8)))))))))))) 0))) = v_264 := Eq.symm hF_263
    replace S := S.put (by decide : 22 < 61) (.pointer (some ((⟨b_1, 0, .none⟩ : Addr).add (coff (.pair (.int .u16) (.pair (.int .u8) (.pair (.int .u8) (.pair (.int .u8) (.pair (.int .u8) (.pair (.int .u16) (.pair (.int .u16) (.pair (.int .u16) (.pair (.int .u8) (.pair (.int .u8) (.pair (.int .u8) (.int .u8)))))))))))) 0))))
    refine EndE.some_ rfl ?_
    rintro _ ⟨rfl, hF_265⟩
    replace S := S.put (by decide : 23 < 61) (.int .u16 x0.1)
    refine EndE.some_ rfl ?_
    rintro _ ⟨rfl, hF_267⟩
    replace S := S.put (by decide : 24 < 61) (.int .u8 t_27)
    refine EndE.some_ rfl ?_
    intro v_270 hF_269; obtain rfl : .pointer (some ((⟨b_1, 0, .none⟩ : Addr).add (coff (.pair (.int .u16) (.pair (.int .u8) (.pair (.int .u8) (.pair (.int .u8) (.pair (.int .u8) (.pair (.int .u16) (.pair (.int .u16) (.pair (.int .u16) (.pair (.int .u8) (.pair (.int .u8) (.pair (.int .u8) (.int .u8)))))))))))) 1))) = v_270 := Eq.symm hF_269
    replace S := S.put (by decide : 25 < 61) (.pointer (some ((⟨b_1, 0, .none⟩ : Addr).add (coff (.pair (.int .u16) (.pair (.int .u8) (.pair (.int .u8) (.pair (.int .u8) (.pair (.int .u8) (.pair (.int .u16) (.pair (.int .u16) (.pair (.int .u16) (.pair (.int .u8) (.pair (.int .u8) (.pair (.int .u8) (.int .u8)))))))))))) 1))))
    refine EndE.some_ rfl ?_
    rintro _ ⟨rfl, hF_271⟩
    replace S := S.put (by decide : 26 < 61) (.int .u8 x0.2.1)
    refine EndE.some_ rfl ?_
    intro v_274 hF_273; obtain rfl : .pointer (some ((⟨b_1, 0, .none⟩ : Addr).add (coff (.pair (.int .u16) (.pair (.int .u8) (.pair (.int .u8) (.pair (.int .u8) (.pair (.int .u8) (.pair (.int .u16) (.pair (.int .u16) (.pair (.int .u16) (.pair (.int .u8) (.pair (.int .u8) (.pair (.int .u8) (.int .u8)))))))))))) 2))) = v_274 := Eq.symm hF_273
    replace S := S.put (by decide : 27 < 61) (.pointer (some ((⟨b_1, 0, .none⟩ : Addr).add (coff (.pair (.int .u16) (.pair (.int .u8) (.pair (.int .u8) (.pair (.int .u8) (.pair (.int .u8) (.pair (.int .u16) (.pair (.int .u16) (.pair (.int .u16) (.pair (.int .u8) (.pair (.int .u8) (.pair (.int .u8) (.int .u8)))))))))))) 2))))
    refine EndE.some_ rfl ?_
    rintro _ ⟨rfl, hF_275⟩
    replace S := S.put (by decide : 28 < 61) (.int .u8 x0.2.2.1)
    refine EndE.some_ rfl ?_
    intro v_278 hF_277; obtain rfl : .pointer (some ((⟨b_1, 0, .none⟩ : Addr).add (coff (.pair (.int .u16) (.pair (.int .u8) (.pair (.int .u8) (.pair (.int .u8) (.pair (.int .u8) (.pair (.int .u16) (.pair (.int .u16) (.pair (.int .u16) (.pair (.int .u8) (.pair (.int .u8) (.pair (.int .u8) (.int .u8)))))))))))) 3))) = v_278 := Eq.symm hF_277
    replace S := S.put (by decide : 29 < 61) (.pointer (some ((⟨b_1, 0, .none⟩ : Addr).add (coff (.pair (.int .u16) (.pair (.int .u8) (.pair (.int .u8) (.pair (.int .u8) (.pair (.int .u8) (.pair (.int .u16) (.pair (.int .u16) (.pair (.int .u16) (.pair (.int .u8) (.pair (.int .u8) (.pair (.int .u8) (.int .u8)))))))))))) 3))))
    refine EndE.some_ rfl ?_
    rintro _ ⟨rfl, hF_279⟩
    replace S := S.put (by decide : 30 < 61) (.int .u8 x0.2.2.2.1)
    refine EndE.some_ rfl ?_
    intro v_282 hF_281; obtain rfl : .pointer (some ((⟨b_1, 0, .none⟩ : Addr).add (coff (.pair (.int .u16) (.pair (.int .u8) (.pair (.int .u8) (.pair (.int .u8) (.pair (.int .u8) (.pair (.int .u16) (.pair (.int .u16) (.pair (.int .u16) (.pair (.int .u8) (.pair (.int .u8) (.pair (.int .u8) (.int .u8)))))))))))) 4))) = v_282 := Eq.symm hF_281
    replace S := S.put (by decide : 31 < 61) (.pointer (some ((⟨b_1, 0, .none⟩ : Addr).add (coff (.pair (.int .u16) (.pair (.int .u8) (.pair (.int .u8) (.pair (.int .u8) (.pair (.int .u8) (.pair (.int .u16) (.pair (.int .u16) (.pair (.int .u16) (.pair (.int .u8) (.pair (.int .u8) (.pair (.int .u8) (.int .u8)))))))))))) 4))))
    refine EndE.some_ rfl ?_
    rintro _ ⟨rfl, hF_283⟩
    replace S := S.put (by decide : 32 < 61) (.int .u8 x0.2.2.2.2.1)
    refine EndE.some_ rfl ?_
    intro v_286 hF_285; obtain rfl : .pointer (some ((⟨b_1, 0, .none⟩ : Addr).add (coff (.pair (.int .u16) (.pair (.int .u8) (.pair (.int .u8) (.pair (.int .u8) (.pair (.int .u8) (.pair (.int .u16) (.pair (.int .u16) (.pair (.int .u16) (.pair (.int .u8) (.pair (.int .u8) (.pair (.int .u8) (.int .u8)))))))))))) 5))) = v_286 := Eq.symm hF_285
    replace S := S.put (by decide : 33 < 61) (.pointer (some ((⟨b_1, 0, .none⟩ : Addr).add (coff (.pair (.int .u16) (.pair (.int .u8) (.pair (.int .u8) (.pair (.int .u8) (.pair (.int .u8) (.pair (.int .u16) (.pair (.int .u16) (.pair (.int .u16) (.pair (.int .u8) (.pair (.int .u8) (.pair (.int .u8) (.int .u8)))))))))))) 5))))
    refine EndE.some_ rfl ?_
    rintro _ ⟨rfl, hF_287⟩
    replace S := S.put (by decide : 34 < 61) (.int .u16 x0.2.2.2.2.2.1)
    refine EndE.some_ rfl ?_
    rintro _ ⟨rfl, hF_289⟩
    replace S := S.put (by decide : 35 < 61) (.int .u8 t_42)
    refine EndE.some_ rfl ?_
    intro v_292 hF_291; obtain rfl : .pointer (some ((⟨b_1, 0, .none⟩ : Addr).add (coff (.pair (.int .u16) (.pair (.int .u8) (.pair (.int .u8) (.pair (.int .u8) (.pair (.int .u8) (.pair (.int .u16) (.pair (.int .u16) (.pair (.int .u16) (.pair (.int .u8) (.pair (.int .u8) (.pair (.int .u8) (.int .u8)))))))))))) 5))) = v_292 := Eq.symm hF_291
    replace S := S.put (by decide : 36 < 61) (.pointer (some ((⟨b_1, 0, .none⟩ : Addr).add (coff (.pair (.int .u16) (.pair (.int .u8) (.pair (.int .u8) (.pair (.int .u8) (.pair (.int .u8) (.pair (.int .u16) (.pair (.int .u16) (.pair (.int .u16) (.pair (.int .u8) (.pair (.int .u8) (.pair (.int .u8) (.int .u8)))))))))))) 5))))
    refine EndE.some_ rfl ?_
    rintro _ ⟨rfl, hF_293⟩
    replace S := S.put (by decide : 37 < 61) (.int .u16 x0.2.2.2.2.2.1)
    refine EndE.some_ rfl ?_
    rintro _ ⟨rfl, hF_295⟩
    replace S := S.put (by decide : 38 < 61) (.int .u8 t_49)
    refine EndE.some_ rfl ?_
    intro v_298 hF_297; obtain rfl : .pointer (some ((⟨b_1, 0, .none⟩ : Addr).add (coff (.pair (.int .u16) (.pair (.int .u8) (.pair (.int .u8) (.pair (.int .u8) (.pair (.int .u8) (.pair (.int .u16) (.pair (.int .u16) (.pair (.int .u16) (.pair (.int .u8) (.pair (.int .u8) (.pair (.int .u8) (.int .u8)))))))))))) 6))) = v_298 := Eq.symm hF_297
    replace S := S.put (by decide : 39 < 61) (.pointer (some ((⟨b_1, 0, .none⟩ : Addr).add (coff (.pair (.int .u16) (.pair (.int .u8) (.pair (.int .u8) (.pair (.int .u8) (.pair (.int .u8) (.pair (.int .u16) (.pair (.int .u16) (.pair (.int .u16) (.pair (.int .u8) (.pair (.int .u8) (.pair (.int .u8) (.int .u8)))))))))))) 6))))
    refine EndE.some_ rfl ?_
    rintro _ ⟨rfl, hF_299⟩
    replace S := S.put (by decide : 40 < 61) (.int .u16 x0.2.2.2.2.2.2.1)
    refine EndE.some_ rfl ?_
    rintro _ ⟨rfl, hF_301⟩
    replace S := S.put (by decide : 41 < 61) (.int .u8 t_56)
    refine EndE.some_ rfl ?_
    intro v_304 hF_303; obtain rfl : .pointer (some ((⟨b_1, 0, .none⟩ : Addr).add (coff (.pair (.int .u16) (.pair (.int .u8) (.pair (.int .u8) (.pair (.int .u8) (.pair (.int .u8) (.pair (.int .u16) (.pair (.int .u16) (.pair (.int .u16) (.pair (.int .u8) (.pair (.int .u8) (.pair (.int .u8) (.int .u8)))))))))))) 6))) = v_304 := Eq.symm hF_303
    replace S := S.put (by decide : 42 < 61) (.pointer (some ((⟨b_1, 0, .none⟩ : Addr).add (coff (.pair (.int .u16) (.pair (.int .u8) (.pair (.int .u8) (.pair (.int .u8) (.pair (.int .u8) (.pair (.int .u16) (.pair (.int .u16) (.pair (.int .u16) (.pair (.int .u8) (.pair (.int .u8) (.pair (.int .u8) (.int .u8)))))))))))) 6))))
    refine EndE.some_ rfl ?_
    rintro _ ⟨rfl, hF_305⟩
    replace S := S.put (by decide : 43 < 61) (.int .u16 x0.2.2.2.2.2.2.1)
    refine EndE.some_ rfl ?_
    rintro _ ⟨rfl, hF_307⟩
    replace S := S.put (by decide : 44 < 61) (.int .u8 t_63)
    refine EndE.some_ rfl ?_
    intro v_310 hF_309; obtain rfl : .pointer (some ((⟨b_1, 0, .none⟩ : Addr).add (coff (.pair (.int .u16) (.pair (.int .u8) (.pair (.int .u8) (.pair (.int .u8) (.pair (.int .u8) (.pair (.int .u16) (.pair (.int .u16) (.pair (.int .u16) (.pair (.int .u8) (.pair (.int .u8) (.pair (.int .u8) (.int .u8)))))))))))) 7))) = v_310 := Eq.symm hF_309
    replace S := S.put (by decide : 45 < 61) (.pointer (some ((⟨b_1, 0, .none⟩ : Addr).add (coff (.pair (.int .u16) (.pair (.int .u8) (.pair (.int .u8) (.pair (.int .u8) (.pair (.int .u8) (.pair (.int .u16) (.pair (.int .u16) (.pair (.int .u16) (.pair (.int .u8) (.pair (.int .u8) (.pair (.int .u8) (.int .u8)))))))))))) 7))))
    refine EndE.some_ rfl ?_
    rintro _ ⟨rfl, hF_311⟩
    replace S := S.put (by decide : 46 < 61) (.int .u16 x0.2.2.2.2.2.2.2.1)
    refine EndE.some_ rfl ?_
    rintro _ ⟨rfl, hF_313⟩
    replace S := S.put (by decide : 47 < 61) (.int .u8 t_70)
    refine EndE.some_ rfl ?_
    intro v_316 hF_315; obtain rfl : .pointer (some ((⟨b_1, 0, .none⟩ : Addr).add (coff (.pair (.int .u16) (.pair (.int .u8) (.pair (.int .u8) (.pair (.int .u8) (.pair (.int .u8) (.pair (.int .u16) (.pair (.int .u16) (.pair (.int .u16) (.pair (.int .u8) (.pair (.int .u8) (.pair (.int .u8) (.int .u8)))))))))))) 7))) = v_316 := Eq.symm hF_315
    replace S := S.put (by decide : 48 < 61) (.pointer (some ((⟨b_1, 0, .none⟩ : Addr).add (coff (.pair (.int .u16) (.pair (.int .u8) (.pair (.int .u8) (.pair (.int .u8) (.pair (.int .u8) (.pair (.int .u16) (.pair (.int .u16) (.pair (.int .u16) (.pair (.int .u8) (.pair (.int .u8) (.pair (.int .u8) (.int .u8)))))))))))) 7))))
    refine EndE.some_ rfl ?_
    rintro _ ⟨rfl, hF_317⟩
    replace S := S.put (by decide : 49 < 61) (.int .u16 x0.2.2.2.2.2.2.2.1)
    refine EndE.some_ rfl ?_
    rintro _ ⟨rfl, hF_319⟩
    replace S := S.put (by decide : 50 < 61) (.int .u8 t_77)
    refine EndE.some_ rfl ?_
    intro v_322 hF_321; obtain rfl : .pointer (some ((⟨b_1, 0, .none⟩ : Addr).add (coff (.pair (.int .u16) (.pair (.int .u8) (.pair (.int .u8) (.pair (.int .u8) (.pair (.int .u8) (.pair (.int .u16) (.pair (.int .u16) (.pair (.int .u16) (.pair (.int .u8) (.pair (.int .u8) (.pair (.int .u8) (.int .u8)))))))))))) 8))) = v_322 := Eq.symm hF_321
    replace S := S.put (by decide : 51 < 61) (.pointer (some ((⟨b_1, 0, .none⟩ : Addr).add (coff (.pair (.int .u16) (.pair (.int .u8) (.pair (.int .u8) (.pair (.int .u8) (.pair (.int .u8) (.pair (.int .u16) (.pair (.int .u16) (.pair (.int .u16) (.pair (.int .u8) (.pair (.int .u8) (.pair (.int .u8) (.int .u8)))))))))))) 8))))
    refine EndE.some_ rfl ?_
    rintro _ ⟨rfl, hF_323⟩
    replace S := S.put (by decide : 52 < 61) (.int .u8 x0.2.2.2.2.2.2.2.2.1)
    refine EndE.some_ rfl ?_
    intro v_326 hF_325; obtain rfl : .pointer (some ((⟨b_1, 0, .none⟩ : Addr).add (coff (.pair (.int .u16) (.pair (.int .u8) (.pair (.int .u8) (.pair (.int .u8) (.pair (.int .u8) (.pair (.int .u16) (.pair (.int .u16) (.pair (.int .u16) (.pair (.int .u8) (.pair (.int .u8) (.pair (.int .u8) (.int .u8)))))))))))) 9))) = v_326 := Eq.symm hF_325
    replace S := S.put (by decide : 53 < 61) (.pointer (some ((⟨b_1, 0, .none⟩ : Addr).add (coff (.pair (.int .u16) (.pair (.int .u8) (.pair (.int .u8) (.pair (.int .u8) (.pair (.int .u8) (.pair (.int .u16) (.pair (.int .u16) (.pair (.int .u16) (.pair (.int .u8) (.pair (.int .u8) (.pair (.int .u8) (.int .u8)))))))))))) 9))))
    refine EndE.some_ rfl ?_
    rintro _ ⟨rfl, hF_327⟩
    replace S := S.put (by decide : 54 < 61) (.int .u8 x0.2.2.2.2.2.2.2.2.2.1)
    refine EndE.some_ rfl ?_
    intro v_330 hF_329; obtain rfl : .pointer (some ((⟨b_1, 0, .none⟩ : Addr).add (coff (.pair (.int .u16) (.pair (.int .u8) (.pair (.int .u8) (.pair (.int .u8) (.pair (.int .u8) (.pair (.int .u16) (.pair (.int .u16) (.pair (.int .u16) (.pair (.int .u8) (.pair (.int .u8) (.pair (.int .u8) (.int .u8)))))))))))) 10))) = v_330 := Eq.symm hF_329
    replace S := S.put (by decide : 55 < 61) (.pointer (some ((⟨b_1, 0, .none⟩ : Addr).add (coff (.pair (.int .u16) (.pair (.int .u8) (.pair (.int .u8) (.pair (.int .u8) (.pair (.int .u8) (.pair (.int .u16) (.pair (.int .u16) (.pair (.int .u16) (.pair (.int .u8) (.pair (.int .u8) (.pair (.int .u8) (.int .u8)))))))))))) 10))))
    refine EndE.some_ rfl ?_
    rintro _ ⟨rfl, hF_331⟩
    replace S := S.put (by decide : 56 < 61) (.int .u8 x0.2.2.2.2.2.2.2.2.2.2.1)
    refine EndE.some_ rfl ?_
    intro v_334 hF_333; obtain rfl : .pointer (some ((⟨b_1, 0, .none⟩ : Addr).add (coff (.pair (.int .u16) (.pair (.int .u8) (.pair (.int .u8) (.pair (.int .u8) (.pair (.int .u8) (.pair (.int .u16) (.pair (.int .u16) (.pair (.int .u16) (.pair (.int .u8) (.pair (.int .u8) (.pair (.int .u8) (.int .u8)))))))))))) 11))) = v_334 := Eq.symm hF_333
    replace S := S.put (by decide : 57 < 61) (.pointer (some ((⟨b_1, 0, .none⟩ : Addr).add (coff (.pair (.int .u16) (.pair (.int .u8) (.pair (.int .u8) (.pair (.int .u8) (.pair (.int .u8) (.pair (.int .u16) (.pair (.int .u16) (.pair (.int .u16) (.pair (.int .u8) (.pair (.int .u8) (.pair (.int .u8) (.int .u8)))))))))))) 11))))
    refine EndE.some_ rfl ?_
    rintro _ ⟨rfl, hF_335⟩
    replace S := S.put (by decide : 58 < 61) (.int .u8 x0.2.2.2.2.2.2.2.2.2.2.2)
    refine EndE.some_ rfl ?_
    intro v_338 hF_337; replace hF_337 : RepV _ _ _ _ _ := hF_337
    replace S := S.put (by decide : 59 < 61) (v_338)
    refine EndE.some_ rfl ?_
    intro v_340 hF_339; replace hF_339 : RepV _ _ _ _ _ := hF_339
    replace S := S.put (by decide : 60 < 61) (v_340)
    refine EndE.some_ rfl ?_
    intro v_342 hF_341; replace hF_341 : RepV _ _ _ _ _ := hF_341
    replace S := S.put (by decide : 2 < 61) (v_342)
    refine EndE.some_ rfl ?_
    intro v_344 hF_343; obtain rfl : .int .i64 0 = v_344 := Eq.symm hF_343
    replace S := S.put (by decide : 3 < 61) (.int .i64 0)
    refine endE_nil S ?_; clear S; intro a S
    replace B_2 := B_2.step hb_256
    replace W := W.step hb_256
    refine then_n ?_
    replace S := S.sub (l' := [(3, .int .i64 0), (2, v_342)]) (by exact ⟨rfl, rfl, trivial⟩)
    refine wp_ret ?_
    obtain rfl := Option.some.inj h
    exact b_ret2 S rfl rfl rfl ⟨_, _, rfl, hF_341.out, (RepV.mkInt (by decide)), W.below⟩
theorem cb16 : callB Try.prog 16 = true := by kernel_rfl
def p33 (n : Nat) (x0 : Int × Int × Int × Int × Int × Int × Int × Int × Int × Int × Int × Int) : Option ((List Int)) :=
  (if (x0.2.2.2.2.1 != 8) = true then some (x0.2.2.2.2.1 != 16) else some false).bind fun q_7 =>
  (if q_7 = true then some (x0.2.2.2.2.1 != 32) else some false).bind fun q_10 =>
  (if q_10 = true then some (x0.2.2.2.2.1 != 64) else some false).bind fun q_13 =>
  (if q_13 = false then some (decide (x0.2.2.2.2.2.2.2.2.2.2.2 < 1)) else some true).bind fun q_16 =>
  (if q_16 = false then some (decide (x0.2.2.2.2.2.2.2.2.2.2.2 > 8)) else some true).bind fun q_19 =>
  if q_19 then (some ([])) else (p38 n x0.1).bind fun t_24 => (catS ([18, 1]) t_24).bind fun s_29 => (catS s_29 ((⟨[x0.2.1, x0.2.2.1, x0.2.2.2.1, x0.2.2.2.2.1], some 4⟩ : Sl (Int)).xs)).bind fun s_42 => (p38 n x0.2.2.2.2.2.1).bind fun t_45 => (catS s_42 t_45).bind fun s_50 => (p38 n x0.2.2.2.2.2.2.1).bind fun t_53 => (catS s_50 t_53).bind fun s_58 => (p38 n x0.2.2.2.2.2.2.2.1).bind fun t_61 => (catS s_58 t_61).bind fun s_66 => (catS s_66 ((⟨[x0.2.2.2.2.2.2.2.2.1, x0.2.2.2.2.2.2.2.2.2.1, x0.2.2.2.2.2.2.2.2.2.2.1, x0.2.2.2.2.2.2.2.2.2.2.2], some 4⟩ : Sl (Int)).xs)).bind fun s_79 => some s_79
set_option maxHeartbeats 4000000 in
set_option maxRecDepth 100000 in
/-- plugboard/plugboardlaw13.device -/
theorem c33 (K : Nat → Prop) (n : Nat) (w : World) (x0 : Int × Int × Int × Int × Int × Int × Int × Int × Int × Int × Int × Int) (v0 : Value) (R0 : RepV (.st (.pair (.int .u16) (.pair (.int .u8) (.pair (.int .u8) (.pair (.int .u8) (.pair (.int .u8) (.pair (.int .u16) (.pair (.int .u16) (.pair (.int .u16) (.pair (.int .u8) (.pair (.int .u8) (.pair (.int .u8) (.int .u8))))))))))))) w K v0 x0) {r : (List Int)} (h : p33 n x0 = some r) :
    Calls Try.prog 33 #[v0] w (Ret1 .str w (Kx K w.heap.size []) r) := by
  refine enter (args := [v0]) Try.func33 rfl 69 rfl rfl fun a S => ?_
  have W := Wd.start w
  replace R0 := R0.arg
  unfold p33 at h
  replace S : St 69 a [(0, v0)] := S
  refine wp_seq ?_
  refine wp_region_lit ?_
  refine w_go S rfl (op_box S rfl rfl rfl rfl rfl R0 ?_)
  clear S; intro a w_3 b_1 hb_4 B_2 S
  replace R0 := R0.box hb_4
  replace W := W.box hb_4
  refine wl_pure (l' := [(2, .string (strOfNums ([]))), (1, .pointer (some (⟨b_1, 0, .none⟩ : Addr))), (0, v0)]) S tys tys_ok 1 (by kernel_rfl) ?_
  clear S; intro a S
  refine wpList_nil ?_
  refine then_n ?_
  replace S := S.sub (l' := [(1, .pointer (some (⟨b_1, 0, .none⟩ : Addr)))]) (by exact ⟨rfl, trivial⟩)
  refine wp_seq ?_
  refine wp_seq ?_
  refine wp_region_lit ?_
  refine wl_pure (l' := [(3, .pointer (some ((⟨b_1, 0, .none⟩ : Addr).add (coff (.pair (.int .u16) (.pair (.int .u8) (.pair (.int .u8) (.pair (.int .u8) (.pair (.int .u8) (.pair (.int .u16) (.pair (.int .u16) (.pair (.int .u16) (.pair (.int .u8) (.pair (.int .u8) (.pair (.int .u8) (.int .u8)))))))))))) 4)))), (1, .pointer (some (⟨b_1, 0, .none⟩ : Addr)))]) S tys tys_ok 1 (by kernel_rfl) ?_
  clear S; intro a S
  refine w_go S rfl (op_load (t := (.int .u8)) (x := x0.2.2.2.2.1) S rfl ty5 rfl rfl rfl (RepAt.add 4 (RepAt.st B_2.at_)) ?_)
  clear S; intro a v_5 R_6 S
  obtain ⟨rfl, GR_6⟩ := RepV.int R_6
  refine wl_pure (l' := [(6, .bool (x0.2.2.2.2.1 != 8)), (5, .bool (x0.2.2.2.2.1 != 8)), (4, .int .u8 x0.2.2.2.2.1), (3, .pointer (some ((⟨b_1, 0, .none⟩ : Addr).add (coff (.pair (.int .u16) (.pair (.int .u8) (.pair (.int .u8) (.pair (.int .u8) (.pair (.int .u8) (.pair (.int .u16) (.pair (.int .u16) (.pair (.int .u16) (.pair (.int .u8) (.pair (.int .u8) (.pair (.int .u8) (.int .u8)))))))))))) 4)))), (1, .pointer (some (⟨b_1, 0, .none⟩ : Addr)))]) S tys tys_ok 2 (by kernel_rfl) ?_
  clear S; intro a S
  obtain ⟨q_7, eq_7, h⟩ := bindS h
  refine seg 4 (fun a_ w_ => w_3 = w_ ∧ St 69 a_ [(10, .bool q_7), (1, .pointer (some (⟨b_1, 0, .none⟩ : Addr)))]) ?_ ?_
  · by_cases hc : (x0.2.2.2.2.1 != 8) = true
    · rw [if_pos hc] at eq_7; rw [hc] at S
      refine wl_pure (l' := [(7, .pointer (some ((⟨b_1, 0, .none⟩ : Addr).add (coff (.pair (.int .u16) (.pair (.int .u8) (.pair (.int .u8) (.pair (.int .u8) (.pair (.int .u8) (.pair (.int .u16) (.pair (.int .u16) (.pair (.int .u16) (.pair (.int .u8) (.pair (.int .u8) (.pair (.int .u8) (.int .u8)))))))))))) 4)))), (6, .bool true), (5, .bool true), (4, .int .u8 x0.2.2.2.2.1), (3, .pointer (some ((⟨b_1, 0, .none⟩ : Addr).add (coff (.pair (.int .u16) (.pair (.int .u8) (.pair (.int .u8) (.pair (.int .u8) (.pair (.int .u8) (.pair (.int .u16) (.pair (.int .u16) (.pair (.int .u16) (.pair (.int .u8) (.pair (.int .u8) (.pair (.int .u8) (.int .u8)))))))))))) 4)))), (1, .pointer (some (⟨b_1, 0, .none⟩ : Addr)))]) S tys tys_ok 1 (by kernel_rfl) ?_
      clear S; intro a S
      refine w_go S rfl (op_load (t := (.int .u8)) (x := x0.2.2.2.2.1) S rfl ty5 rfl rfl rfl (RepAt.add 4 (RepAt.st B_2.at_)) ?_)
      clear S; intro a v_8 R_9 S
      obtain ⟨rfl, GR_9⟩ := RepV.int R_9
      refine wl_pure (l' := [(10, .bool (x0.2.2.2.2.1 != 16)), (9, .bool (x0.2.2.2.2.1 != 16)), (8, .int .u8 x0.2.2.2.2.1), (7, .pointer (some ((⟨b_1, 0, .none⟩ : Addr).add (coff (.pair (.int .u16) (.pair (.int .u8) (.pair (.int .u8) (.pair (.int .u8) (.pair (.int .u8) (.pair (.int .u16) (.pair (.int .u16) (.pair (.int .u16) (.pair (.int .u8) (.pair (.int .u8) (.pair (.int .u8) (.int .u8)))))))))))) 4)))), (6, .bool true), (5, .bool true), (4, .int .u8 x0.2.2.2.2.1), (3, .pointer (some ((⟨b_1, 0, .none⟩ : Addr).add (coff (.pair (.int .u16) (.pair (.int .u8) (.pair (.int .u8) (.pair (.int .u8) (.pair (.int .u8) (.pair (.int .u16) (.pair (.int .u16) (.pair (.int .u16) (.pair (.int .u8) (.pair (.int .u8) (.pair (.int .u8) (.int .u8)))))))))))) 4)))), (1, .pointer (some (⟨b_1, 0, .none⟩ : Addr)))]) S tys tys_ok 2 (by kernel_rfl) ?_
      clear S; intro a S
      obtain rfl := Option.some.inj eq_7
      exact ⟨rfl, S.sub (by exact ⟨rfl, rfl, trivial⟩)⟩
    · rw [if_neg hc] at eq_7; rw [show (x0.2.2.2.2.1 != 8) = false from Bool.eq_false_iff.2 hc] at S
      refine wl_pure (l' := [(10, .bool false), (9, undef), (8, undef), (7, undef), (6, .bool false), (5, .bool false), (4, .int .u8 x0.2.2.2.2.1), (3, .pointer (some ((⟨b_1, 0, .none⟩ : Addr).add (coff (.pair (.int .u16) (.pair (.int .u8) (.pair (.int .u8) (.pair (.int .u8) (.pair (.int .u8) (.pair (.int .u16) (.pair (.int .u16) (.pair (.int .u16) (.pair (.int .u8) (.pair (.int .u8) (.pair (.int .u8) (.int .u8)))))))))))) 4)))), (1, .pointer (some (⟨b_1, 0, .none⟩ : Addr)))]) S tys tys_ok 4 (by kernel_rfl) ?_
      clear S; intro a S
      obtain rfl := Option.some.inj eq_7
      exact ⟨rfl, S.sub (by exact ⟨rfl, rfl, trivial⟩)⟩
  clear S eq_7; rintro a _ ⟨rfl, S⟩
  refine wl_pure (l' := [(11, .bool q_7), (10, .bool q_7), (1, .pointer (some (⟨b_1, 0, .none⟩ : Addr)))]) S tys tys_ok 1 (by kernel_rfl) ?_
  clear S; intro a S
  obtain ⟨q_10, eq_10, h⟩ := bindS h
  refine seg 4 (fun a_ w_ => w_3 = w_ ∧ St 69 a_ [(15, .bool q_10), (1, .pointer (some (⟨b_1, 0, .none⟩ : Addr)))]) ?_ ?_
  · by_cases hc : q_7 = true
    · rw [if_pos hc] at eq_10; rw [hc] at S
      refine wl_pure (l' := [(12, .pointer (some ((⟨b_1, 0, .none⟩ : Addr).add (coff (.pair (.int .u16) (.pair (.int .u8) (.pair (.int .u8) (.pair (.int .u8) (.pair (.int .u8) (.pair (.int .u16) (.pair (.int .u16) (.pair (.int .u16) (.pair (.int .u8) (.pair (.int .u8) (.pair (.int .u8) (.int .u8)))))))))))) 4)))), (11, .bool true), (10, .bool true), (1, .pointer (some (⟨b_1, 0, .none⟩ : Addr)))]) S tys tys_ok 1 (by kernel_rfl) ?_
      clear S; intro a S
      refine w_go S rfl (op_load (t := (.int .u8)) (x := x0.2.2.2.2.1) S rfl ty5 rfl rfl rfl (RepAt.add 4 (RepAt.st B_2.at_)) ?_)
      clear S; intro a v_11 R_12 S
      obtain ⟨rfl, GR_12⟩ := RepV.int R_12
      refine wl_pure (l' := [(15, .bool (x0.2.2.2.2.1 != 32)), (14, .bool (x0.2.2.2.2.1 != 32)), (13, .int .u8 x0.2.2.2.2.1), (12, .pointer (some ((⟨b_1, 0, .none⟩ : Addr).add (coff (.pair (.int .u16) (.pair (.int .u8) (.pair (.int .u8) (.pair (.int .u8) (.pair (.int .u8) (.pair (.int .u16) (.pair (.int .u16) (.pair (.int .u16) (.pair (.int .u8) (.pair (.int .u8) (.pair (.int .u8) (.int .u8)))))))))))) 4)))), (11, .bool true), (10, .bool true), (1, .pointer (some (⟨b_1, 0, .none⟩ : Addr)))]) S tys tys_ok 2 (by kernel_rfl) ?_
      clear S; intro a S
      obtain rfl := Option.some.inj eq_10
      exact ⟨rfl, S.sub (by exact ⟨rfl, rfl, trivial⟩)⟩
    · rw [if_neg hc] at eq_10; rw [show q_7 = false from Bool.eq_false_iff.2 hc] at S
      refine wl_pure (l' := [(15, .bool false), (14, undef), (13, undef), (12, undef), (11, .bool false), (10, .bool false), (1, .pointer (some (⟨b_1, 0, .none⟩ : Addr)))]) S tys tys_ok 4 (by kernel_rfl) ?_
      clear S; intro a S
      obtain rfl := Option.some.inj eq_10
      exact ⟨rfl, S.sub (by exact ⟨rfl, rfl, trivial⟩)⟩
  clear S eq_10; rintro a _ ⟨rfl, S⟩
  refine wl_pure (l' := [(16, .bool q_10), (15, .bool q_10), (1, .pointer (some (⟨b_1, 0, .none⟩ : Addr)))]) S tys tys_ok 1 (by kernel_rfl) ?_
  clear S; intro a S
  obtain ⟨q_13, eq_13, h⟩ := bindS h
  refine seg 4 (fun a_ w_ => w_3 = w_ ∧ St 69 a_ [(20, .bool q_13), (1, .pointer (some (⟨b_1, 0, .none⟩ : Addr)))]) ?_ ?_
  · by_cases hc : q_10 = true
    · rw [if_pos hc] at eq_13; rw [hc] at S
      refine wl_pure (l' := [(17, .pointer (some ((⟨b_1, 0, .none⟩ : Addr).add (coff (.pair (.int .u16) (.pair (.int .u8) (.pair (.int .u8) (.pair (.int .u8) (.pair (.int .u8) (.pair (.int .u16) (.pair (.int .u16) (.pair (.int .u16) (.pair (.int .u8) (.pair (.int .u8) (.pair (.int .u8) (.int .u8)))))))))))) 4)))), (16, .bool true), (15, .bool true), (1, .pointer (some (⟨b_1, 0, .none⟩ : Addr)))]) S tys tys_ok 1 (by kernel_rfl) ?_
      clear S; intro a S
      refine w_go S rfl (op_load (t := (.int .u8)) (x := x0.2.2.2.2.1) S rfl ty5 rfl rfl rfl (RepAt.add 4 (RepAt.st B_2.at_)) ?_)
      clear S; intro a v_14 R_15 S
      obtain ⟨rfl, GR_15⟩ := RepV.int R_15
      refine wl_pure (l' := [(20, .bool (x0.2.2.2.2.1 != 64)), (19, .bool (x0.2.2.2.2.1 != 64)), (18, .int .u8 x0.2.2.2.2.1), (17, .pointer (some ((⟨b_1, 0, .none⟩ : Addr).add (coff (.pair (.int .u16) (.pair (.int .u8) (.pair (.int .u8) (.pair (.int .u8) (.pair (.int .u8) (.pair (.int .u16) (.pair (.int .u16) (.pair (.int .u16) (.pair (.int .u8) (.pair (.int .u8) (.pair (.int .u8) (.int .u8)))))))))))) 4)))), (16, .bool true), (15, .bool true), (1, .pointer (some (⟨b_1, 0, .none⟩ : Addr)))]) S tys tys_ok 2 (by kernel_rfl) ?_
      clear S; intro a S
      obtain rfl := Option.some.inj eq_13
      exact ⟨rfl, S.sub (by exact ⟨rfl, rfl, trivial⟩)⟩
    · rw [if_neg hc] at eq_13; rw [show q_10 = false from Bool.eq_false_iff.2 hc] at S
      refine wl_pure (l' := [(20, .bool false), (19, undef), (18, undef), (17, undef), (16, .bool false), (15, .bool false), (1, .pointer (some (⟨b_1, 0, .none⟩ : Addr)))]) S tys tys_ok 4 (by kernel_rfl) ?_
      clear S; intro a S
      obtain rfl := Option.some.inj eq_13
      exact ⟨rfl, S.sub (by exact ⟨rfl, rfl, trivial⟩)⟩
  clear S eq_13; rintro a _ ⟨rfl, S⟩
  refine wl_pure (l' := [(21, .bool q_13), (20, .bool q_13), (1, .pointer (some (⟨b_1, 0, .none⟩ : Addr)))]) S tys tys_ok 1 (by kernel_rfl) ?_
  clear S; intro a S
  obtain ⟨q_16, eq_16, h⟩ := bindS h
  refine seg 4 (fun a_ w_ => w_3 = w_ ∧ St 69 a_ [(25, .bool q_16), (1, .pointer (some (⟨b_1, 0, .none⟩ : Addr)))]) ?_ ?_
  · by_cases hc : q_13 = false
    · rw [if_pos hc] at eq_16; rw [hc] at S
      refine wl_pure (l' := [(22, .pointer (some ((⟨b_1, 0, .none⟩ : Addr).add (coff (.pair (.int .u16) (.pair (.int .u8) (.pair (.int .u8) (.pair (.int .u8) (.pair (.int .u8) (.pair (.int .u16) (.pair (.int .u16) (.pair (.int .u16) (.pair (.int .u8) (.pair (.int .u8) (.pair (.int .u8) (.int .u8)))))))))))) 11)))), (21, .bool false), (20, .bool false), (1, .pointer (some (⟨b_1, 0, .none⟩ : Addr)))]) S tys tys_ok 1 (by kernel_rfl) ?_
      clear S; intro a S
      refine w_go S rfl (op_load (t := (.int .u8)) (x := x0.2.2.2.2.2.2.2.2.2.2.2) S rfl ty5 rfl rfl rfl (RepAt.add 11 (RepAt.st B_2.at_)) ?_)
      clear S; intro a v_17 R_18 S
      obtain ⟨rfl, GR_18⟩ := RepV.int R_18
      refine wl_pure (l' := [(25, .bool (decide (x0.2.2.2.2.2.2.2.2.2.2.2 < 1))), (24, .bool (decide (x0.2.2.2.2.2.2.2.2.2.2.2 < 1))), (23, .int .u8 x0.2.2.2.2.2.2.2.2.2.2.2), (22, .pointer (some ((⟨b_1, 0, .none⟩ : Addr).add (coff (.pair (.int .u16) (.pair (.int .u8) (.pair (.int .u8) (.pair (.int .u8) (.pair (.int .u8) (.pair (.int .u16) (.pair (.int .u16) (.pair (.int .u16) (.pair (.int .u8) (.pair (.int .u8) (.pair (.int .u8) (.int .u8)))))))))))) 11)))), (21, .bool false), (20, .bool false), (1, .pointer (some (⟨b_1, 0, .none⟩ : Addr)))]) S tys tys_ok 2 (by kernel_rfl) ?_
      clear S; intro a S
      obtain rfl := Option.some.inj eq_16
      exact ⟨rfl, S.sub (by exact ⟨rfl, rfl, trivial⟩)⟩
    · rw [if_neg hc] at eq_16; rw [show q_13 = true from (by simpa using hc)] at S
      refine wl_pure (l' := [(25, .bool true), (24, undef), (23, undef), (22, undef), (21, .bool true), (20, .bool true), (1, .pointer (some (⟨b_1, 0, .none⟩ : Addr)))]) S tys tys_ok 4 (by kernel_rfl) ?_
      clear S; intro a S
      obtain rfl := Option.some.inj eq_16
      exact ⟨rfl, S.sub (by exact ⟨rfl, rfl, trivial⟩)⟩
  clear S eq_16; rintro a _ ⟨rfl, S⟩
  refine wl_pure (l' := [(26, .bool q_16), (25, .bool q_16), (1, .pointer (some (⟨b_1, 0, .none⟩ : Addr)))]) S tys tys_ok 1 (by kernel_rfl) ?_
  clear S; intro a S
  obtain ⟨q_19, eq_19, h⟩ := bindS h
  refine seg 4 (fun a_ w_ => w_3 = w_ ∧ St 69 a_ [(30, .bool q_19), (1, .pointer (some (⟨b_1, 0, .none⟩ : Addr)))]) ?_ ?_
  · by_cases hc : q_16 = false
    · rw [if_pos hc] at eq_19; rw [hc] at S
      refine wl_pure (l' := [(27, .pointer (some ((⟨b_1, 0, .none⟩ : Addr).add (coff (.pair (.int .u16) (.pair (.int .u8) (.pair (.int .u8) (.pair (.int .u8) (.pair (.int .u8) (.pair (.int .u16) (.pair (.int .u16) (.pair (.int .u16) (.pair (.int .u8) (.pair (.int .u8) (.pair (.int .u8) (.int .u8)))))))))))) 11)))), (26, .bool false), (25, .bool false), (1, .pointer (some (⟨b_1, 0, .none⟩ : Addr)))]) S tys tys_ok 1 (by kernel_rfl) ?_
      clear S; intro a S
      refine w_go S rfl (op_load (t := (.int .u8)) (x := x0.2.2.2.2.2.2.2.2.2.2.2) S rfl ty5 rfl rfl rfl (RepAt.add 11 (RepAt.st B_2.at_)) ?_)
      clear S; intro a v_20 R_21 S
      obtain ⟨rfl, GR_21⟩ := RepV.int R_21
      refine wl_pure (l' := [(30, .bool (decide (x0.2.2.2.2.2.2.2.2.2.2.2 > 8))), (29, .bool (decide (x0.2.2.2.2.2.2.2.2.2.2.2 > 8))), (28, .int .u8 x0.2.2.2.2.2.2.2.2.2.2.2), (27, .pointer (some ((⟨b_1, 0, .none⟩ : Addr).add (coff (.pair (.int .u16) (.pair (.int .u8) (.pair (.int .u8) (.pair (.int .u8) (.pair (.int .u8) (.pair (.int .u16) (.pair (.int .u16) (.pair (.int .u16) (.pair (.int .u8) (.pair (.int .u8) (.pair (.int .u8) (.int .u8)))))))))))) 11)))), (26, .bool false), (25, .bool false), (1, .pointer (some (⟨b_1, 0, .none⟩ : Addr)))]) S tys tys_ok 2 (by kernel_rfl) ?_
      clear S; intro a S
      obtain rfl := Option.some.inj eq_19
      exact ⟨rfl, S.sub (by exact ⟨rfl, rfl, trivial⟩)⟩
    · rw [if_neg hc] at eq_19; rw [show q_16 = true from (by simpa using hc)] at S
      refine wl_pure (l' := [(30, .bool true), (29, undef), (28, undef), (27, undef), (26, .bool true), (25, .bool true), (1, .pointer (some (⟨b_1, 0, .none⟩ : Addr)))]) S tys tys_ok 4 (by kernel_rfl) ?_
      clear S; intro a S
      obtain rfl := Option.some.inj eq_19
      exact ⟨rfl, S.sub (by exact ⟨rfl, rfl, trivial⟩)⟩
  clear S eq_19; rintro a _ ⟨rfl, S⟩
  refine wpList_nil ?_
  refine then_n ?_
  refine wp_cond_split (S.eval (show ev _ _ = some (.bool q_19) from rfl)) ?_ ?_
  · intro hc
    rw [if_pos hc] at h
    refine wp_seq ?_
    refine wp_region_lit ?_
    refine wl_pure (l' := [(2, .string (strOfNums ([]))), (30, .bool q_19), (1, .pointer (some (⟨b_1, 0, .none⟩ : Addr)))]) S tys tys_ok 1 (by kernel_rfl) ?_
    clear S; intro a S
    refine wpList_nil ?_
    refine then_n ?_
    replace S := S.sub (l' := [(2, .string (strOfNums ([])))]) (by exact ⟨rfl, trivial⟩)
    refine wp_ret ?_
    refine then_r ?_
    obtain rfl := Option.some.inj h
    exact b_ret1 S rfl rfl ⟨_, rfl, (RepV.mkStr (strG ([]) (by decide) (by decide))), W.below⟩
  · intro hc
    rw [if_neg (Bool.eq_false_iff.1 hc)] at h
    refine wp_skip ?_
    refine then_n ?_
    replace S := S.sub (l' := [(1, .pointer (some (⟨b_1, 0, .none⟩ : Addr)))]) (by exact ⟨rfl, trivial⟩)
    refine wp_seq ?_
    obtain ⟨t_24, et_24, h⟩ := bindS h
    obtain ⟨s_29, es_29, h⟩ := bindS h
    obtain ⟨s_42, es_42, h⟩ := bindS h
    obtain ⟨t_45, et_45, h⟩ := bindS h
    obtain ⟨s_50, es_50, h⟩ := bindS h
    obtain ⟨t_53, et_53, h⟩ := bindS h
    obtain ⟨s_58, es_58, h⟩ := bindS h
    obtain ⟨t_61, et_61, h⟩ := bindS h
    obtain ⟨s_66, es_66, h⟩ := bindS h
    obtain ⟨s_79, es_79, h⟩ := bindS h
    have hR : Rel (Kx K w.heap.size [some b_1]) Bl := Bl.rel _
    refine wp_region_all hR [eqv (.pointer (some ((⟨b_1, 0, .none⟩ : Addr).add (coff (.pair (.int .u16) (.pair (.int .u8) (.pair (.int .u8) (.pair (.int .u8) (.pair (.int .u8) (.pair (.int .u16) (.pair (.int .u16) (.pair (.int .u16) (.pair (.int .u8) (.pair (.int .u8) (.pair (.int .u8) (.int .u8)))))))))))) 0)))), isI .u16 x0.1, isS t_24, isS s_29, eqv (.pointer (some ((⟨b_1, 0, .none⟩ : Addr).add (coff (.pair (.int .u16) (.pair (.int .u8) (.pair (.int .u8) (.pair (.int .u8) (.pair (.int .u8) (.pair (.int .u16) (.pair (.int .u16) (.pair (.int .u16) (.pair (.int .u8) (.pair (.int .u8) (.pair (.int .u8) (.int .u8)))))))))))) 1)))), isI .u8 x0.2.1, eqv (.pointer (some ((⟨b_1, 0, .none⟩ : Addr).add (coff (.pair (.int .u16) (.pair (.int .u8) (.pair (.int .u8) (.pair (.int .u8) (.pair (.int .u8) (.pair (.int .u16) (.pair (.int .u16) (.pair (.int .u16) (.pair (.int .u8) (.pair (.int .u8) (.pair (.int .u8) (.int .u8)))))))))))) 2)))), isI .u8 x0.2.2.1, eqv (.pointer (some ((⟨b_1, 0, .none⟩ : Addr).add (coff (.pair (.int .u16) (.pair (.int .u8) (.pair (.int .u8) (.pair (.int .u8) (.pair (.int .u8) (.pair (.int .u16) (.pair (.int .u16) (.pair (.int .u16) (.pair (.int .u8) (.pair (.int .u8) (.pair (.int .u8) (.int .u8)))))))))))) 3)))), isI .u8 x0.2.2.2.1, eqv (.pointer (some ((⟨b_1, 0, .none⟩ : Addr).add (coff (.pair (.int .u16) (.pair (.int .u8) (.pair (.int .u8) (.pair (.int .u8) (.pair (.int .u8) (.pair (.int .u16) (.pair (.int .u16) (.pair (.int .u16) (.pair (.int .u8) (.pair (.int .u8) (.pair (.int .u8) (.int .u8)))))))))))) 4)))), isI .u8 x0.2.2.2.2.1, isRep (.sl (.int .u8)) (Kx K w.heap.size [some b_1]) (⟨[x0.2.1, x0.2.2.1, x0.2.2.2.1, x0.2.2.2.2.1], some 4⟩ : Sl (Int)), isS ((⟨[x0.2.1, x0.2.2.1, x0.2.2.2.1, x0.2.2.2.2.1], some 4⟩ : Sl (Int)).xs), isS s_42, eqv (.pointer (some ((⟨b_1, 0, .none⟩ : Addr).add (coff (.pair (.int .u16) (.pair (.int .u8) (.pair (.int .u8) (.pair (.int .u8) (.pair (.int .u8) (.pair (.int .u16) (.pair (.int .u16) (.pair (.int .u16) (.pair (.int .u8) (.pair (.int .u8) (.pair (.int .u8) (.int .u8)))))))))))) 5)))), isI .u16 x0.2.2.2.2.2.1, isS t_45, isS s_50, eqv (.pointer (some ((⟨b_1, 0, .none⟩ : Addr).add (coff (.pair (.int .u16) (.pair (.int .u8) (.pair (.int .u8) (.pair (.int .u8) (.pair (.int .u8) (.pair (.int .u16) (.pair (.int .u16) (.pair (.int .u16) (.pair (.int .u8) (.pair (.int .u8) (.pair (.int .u8) (.int .u8)))))))))))) 6)))), isI .u16 x0.2.2.2.2.2.2.1, isS t_53, isS s_58, eqv (.pointer (some ((⟨b_1, 0, .none⟩ : Addr).add (coff (.pair (.int .u16) (.pair (.int .u8) (.pair (.int .u8) (.pair (.int .u8) (.pair (.int .u8) (.pair (.int .u16) (.pair (.int .u16) (.pair (.int .u16) (.pair (.int .u8) (.pair (.int .u8) (.pair (.int .u8) (.int .u8)))))))))))) 7)))), isI .u16 x0.2.2.2.2.2.2.2.1, isS t_61, isS s_66, eqv (.pointer (some ((⟨b_1, 0, .none⟩ : Addr).add (coff (.pair (.int .u16) (.pair (.int .u8) (.pair (.int .u8) (.pair (.int .u8) (.pair (.int .u8) (.pair (.int .u16) (.pair (.int .u16) (.pair (.int .u16) (.pair (.int .u8) (.pair (.int .u8) (.pair (.int .u8) (.int .u8)))))))))))) 8)))), isI .u8 x0.2.2.2.2.2.2.2.2.1, eqv (.pointer (some ((⟨b_1, 0, .none⟩ : Addr).add (coff (.pair (.int .u16) (.pair (.int .u8) (.pair (.int .u8) (.pair (.int .u8) (.pair (.int .u8) (.pair (.int .u16) (.pair (.int .u16) (.pair (.int .u16) (.pair (.int .u8) (.pair (.int .u8) (.pair (.int .u8) (.int .u8)))))))))))) 9)))), isI .u8 x0.2.2.2.2.2.2.2.2.2.1, eqv (.pointer (some ((⟨b_1, 0, .none⟩ : Addr).add (coff (.pair (.int .u16) (.pair (.int .u8) (.pair (.int .u8) (.pair (.int .u8) (.pair (.int .u8) (.pair (.int .u16) (.pair (.int .u16) (.pair (.int .u16) (.pair (.int .u8) (.pair (.int .u8) (.pair (.int .u8) (.int .u8)))))))))))) 10)))), isI .u8 x0.2.2.2.2.2.2.2.2.2.2.1, eqv (.pointer (some ((⟨b_1, 0, .none⟩ : Addr).add (coff (.pair (.int .u16) (.pair (.int .u8) (.pair (.int .u8) (.pair (.int .u8) (.pair (.int .u8) (.pair (.int .u16) (.pair (.int .u16) (.pair (.int .u16) (.pair (.int .u8) (.pair (.int .u8) (.pair (.int .u8) (.int .u8)))))))))))) 11)))), isI .u8 x0.2.2.2.2.2.2.2.2.2.2.2, isRep (.sl (.int .u8)) (Kx K w.heap.size [some b_1]) (⟨[x0.2.2.2.2.2.2.2.2.1, x0.2.2.2.2.2.2.2.2.2.1, x0.2.2.2.2.2.2.2.2.2.2.1, x0.2.2.2.2.2.2.2.2.2.2.2], some 4⟩ : Sl (Int)), isS ((⟨[x0.2.2.2.2.2.2.2.2.1, x0.2.2.2.2.2.2.2.2.2.1, x0.2.2.2.2.2.2.2.2.2.2.1, x0.2.2.2.2.2.2.2.2.2.2.2], some 4⟩ : Sl (Int)).xs), isS s_79, isS s_79] [[], [(0, 31)], [(1, 32)], [(2, 33)], [], [(4, 35)], [], [(6, 37)], [], [(8, 39)], [], [(10, 41)], [(5, 36), (7, 38), (9, 40), (11, 42)], [(12, 43)], [(3, 34), (13, 44)], [], [(15, 46)], [(16, 47)], [(14, 45), (17, 48)], [], [(19, 50)], [(20, 51)], [(18, 49), (21, 52)], [], [(23, 54)], [(24, 55)], [(22, 53), (25, 56)], [], [(27, 58)], [], [(29, 60)], [], [(31, 62)], [], [(33, 64)], [(28, 59), (30, 61), (32, 63), (34, 65)], [(35, 66)], [(26, 57), (36, 67)], [(37, 68)]] (by kernel_rfl) (by rw [S.size]; kernel_rfl) (by kernel_rfl) (by kernel_rfl) rfl ⟨(stab_eqv _), stab_I, stab_S, stab_S, (stab_eqv _), stab_I, (stab_eqv _), stab_I, (stab_eqv _), stab_I, (stab_eqv _), stab_I, (stab_rep hR), stab_S, stab_S, (stab_eqv _), stab_I, stab_S, stab_S, (stab_eqv _), stab_I, stab_S, stab_S, (stab_eqv _), stab_I, stab_S, stab_S, (stab_eqv _), stab_I, (stab_eqv _), stab_I, (stab_eqv _), stab_I, (stab_eqv _), stab_I, (stab_rep hR), stab_S, stab_S, stab_S, trivial⟩ ?_ ?_
    ·
      refine RunAll.cons (eqv (.pointer (some ((⟨b_1, 0, .none⟩ : Addr).add (coff (.pair (.int .u16) (.pair (.int .u8) (.pair (.int .u8) (.pair (.int .u8) (.pair (.int .u8) (.pair (.int .u16) (.pair (.int .u16) (.pair (.int .u16) (.pair (.int .u8) (.pair (.int .u8) (.pair (.int .u8) (.int .u8)))))))))))) 0))))) [] rfl rfl ?_ ?_
      · intro W_ hW
        have S1 := S
        refine fill_nil S1 ?_; clear S1; intro a_ S1
        replace B_2 := B_2.step hW
        have S0 := S.defers; replace S := S1; clear S1
        refine wl_pure (l' := [(31, .pointer (some ((⟨b_1, 0, .none⟩ : Addr).add (coff (.pair (.int .u16) (.pair (.int .u8) (.pair (.int .u8) (.pair (.int .u8) (.pair (.int .u8) (.pair (.int .u16) (.pair (.int .u16) (.pair (.int .u16) (.pair (.int .u8) (.pair (.int .u8) (.pair (.int .u8) (.int .u8)))))))))))) 0)))), (1, .pointer (some (⟨b_1, 0, .none⟩ : Addr)))]) S tys tys_ok 1 (by kernel_rfl) ?_; clear S; intro a S
        refine wpList_nil ?_
        exact RPost.mk_ S rfl S0 rfl (Below.refl _ _)
      refine RunAll.cons (isI .u16 x0.1) [(eqv (.pointer (some ((⟨b_1, 0, .none⟩ : Addr).add (coff (.pair (.int .u16) (.pair (.int .u8) (.pair (.int .u8) (.pair (.int .u8) (.pair (.int .u8) (.pair (.int .u16) (.pair (.int .u16) (.pair (.int .u16) (.pair (.int .u8) (.pair (.int .u8) (.pair (.int .u8) (.int .u8)))))))))))) 0)))), 31)] rfl rfl ?_ ?_
      · intro W_ hW
        have S1 := S
        intro v_81 hF_80; obtain rfl : .pointer (some ((⟨b_1, 0, .none⟩ : Addr).add (coff (.pair (.int .u16) (.pair (.int .u8) (.pair (.int .u8) (.pair (.int .u8) (.pair (.int .u8) (.pair (.int .u16) (.pair (.int .u16) (.pair (.int .u16) (.pair (.int .u8) (.pair (.int .u8) (.pair (.int .u8) (.int .u8)))))))))))) 0))) = v_81 := Eq.symm hF_80
        replace S1 := S1.put (by decide : 31 < 69) (.pointer (some ((⟨b_1, 0, .none⟩ : Addr).add (coff (.pair (.int .u16) (.pair (.int .u8) (.pair (.int .u8) (.pair (.int .u8) (.pair (.int .u8) (.pair (.int .u16) (.pair (.int .u16) (.pair (.int .u16) (.pair (.int .u8) (.pair (.int .u8) (.pair (.int .u8) (.int .u8)))))))))))) 0))))
        refine fill_nil S1 ?_; clear S1; intro a_ S1
        replace B_2 := B_2.step hW
        have S0 := S.defers; replace S := S1; clear S1
        refine w_go S rfl (op_load (t := (.int .u16)) (x := x0.1) S rfl ty33 rfl rfl rfl (RepAt.add 0 (RepAt.st B_2.at_)) ?_)
        clear S; intro a v_82 R_83 S
        obtain ⟨rfl, GR_83⟩ := RepV.int R_83
        refine wpList_nil ?_
        exact RPost.mk_ S rfl S0 ⟨rfl, GR_83⟩ (Below.refl _ _)
      refine RunAll.cons (isS t_24) [(isI .u16 x0.1, 32)] rfl rfl ?_ ?_
      · intro W_ hW
        have S1 := S
        rintro _ ⟨rfl, hF_84⟩
        replace S1 := S1.put (by decide : 32 < 69) (.int .u16 x0.1)
        refine fill_nil S1 ?_; clear S1; intro a_ S1
        replace W := W.step hW
        have S0 := S.defers; replace S := S1; clear S1
        refine w_go S rfl (op_call (vs := [.int .u16 x0.1]) S rfl cb38 rfl rfl rfl (c38 (Kx K w.heap.size [some b_1]) n W_ x0.1 hF_84 et_24) ?_)
        rintro _ w_89 ⟨v_86, rfl, R_87, hb_88⟩; refine ⟨_, rfl, ?_⟩
        replace R_87 := RepV.back R_87 W
        clear S; intro a S
        obtain ⟨rfl, GR_87⟩ := RepV.str R_87
        refine wpList_nil ?_
        exact RPost.mk_ S rfl S0 ⟨rfl, GR_87⟩ (hb_88)
      refine RunAll.cons (isS s_29) [(isS t_24, 33)] rfl rfl ?_ ?_
      · intro W_ hW
        have S1 := S
        rintro _ ⟨rfl, hF_90⟩
        replace S1 := S1.put (by decide : 33 < 69) (.string (strOfNums t_24))
        refine fill_nil S1 ?_; clear S1; intro a_ S1
        have S0 := S.defers; replace S := S1; clear S1
        refine w_go S rfl (op_cat S rfl rfl rfl (by kernel_rfl) rfl es_29 ?_)
        clear S; intro a S
        refine wpList_nil ?_
        exact RPost.mk_ S rfl S0 ⟨rfl, (catS_ok (strG ([18, 1]) (by decide) (by decide)) hF_90 es_29)⟩ (Below.refl _ _)
      refine RunAll.cons (eqv (.pointer (some ((⟨b_1, 0, .none⟩ : Addr).add (coff (.pair (.int .u16) (.pair (.int .u8) (.pair (.int .u8) (.pair (.int .u8) (.pair (.int .u8) (.pair (.int .u16) (.pair (.int .u16) (.pair (.int .u16) (.pair (.int .u8) (.pair (.int .u8) (.pair (.int .u8) (.int .u8)))))))))))) 1))))) [] rfl rfl ?_ ?_
      · intro W_ hW
        have S1 := S
        refine fill_nil S1 ?_; clear S1; intro a_ S1
        replace B_2 := B_2.step hW
        have S0 := S.defers; replace S := S1; clear S1
        refine wl_pure (l' := [(35, .pointer (some ((⟨b_1, 0, .none⟩ : Addr).add (coff (.pair (.int .u16) (.pair (.int .u8) (.pair (.int .u8) (.pair (.int .u8) (.pair (.int .u8) (.pair (.int .u16) (.pair (.int .u16) (.pair (.int .u16) (.pair (.int .u8) (.pair (.int .u8) (.pair (.int .u8) (.int .u8)))))))))))) 1)))), (1, .pointer (some (⟨b_1, 0, .none⟩ : Addr)))]) S tys tys_ok 1 (by kernel_rfl) ?_; clear S; intro a S
        refine wpList_nil ?_
        exact RPost.mk_ S rfl S0 rfl (Below.refl _ _)
      refine RunAll.cons (isI .u8 x0.2.1) [(eqv (.pointer (some ((⟨b_1, 0, .none⟩ : Addr).add (coff (.pair (.int .u16) (.pair (.int .u8) (.pair (.int .u8) (.pair (.int .u8) (.pair (.int .u8) (.pair (.int .u16) (.pair (.int .u16) (.pair (.int .u16) (.pair (.int .u8) (.pair (.int .u8) (.pair (.int .u8) (.int .u8)))))))))))) 1)))), 35)] rfl rfl ?_ ?_
      · intro W_ hW
        have S1 := S
        intro v_93 hF_92; obtain rfl : .pointer (some ((⟨b_1, 0, .none⟩ : Addr).add (coff (.pair (.int .u16) (.pair (.int .u8) (.pair (.int .u8) (.pair (.int .u8) (.pair (.int .u8) (.pair (.int .u16) (.pair (.int .u16) (.pair (.int .u16) (.pair (.int .u8) (.pair (.int .u8) (.pair (.int .u8) (.int .u8)))))))))))) 1))) = v_93 := Eq.symm hF_92
        replace S1 := S1.put (by decide : 35 < 69) (.pointer (some ((⟨b_1, 0, .none⟩ : Addr).add (coff (.pair (.int .u16) (.pair (.int .u8) (.pair (.int .u8) (.pair (.int .u8) (.pair (.int .u8) (.pair (.int .u16) (.pair (.int .u16) (.pair (.int .u16) (.pair (.int .u8) (.pair (.int .u8) (.pair (.int .u8) (.int .u8)))))))))))) 1))))
        refine fill_nil S1 ?_; clear S1; intro a_ S1
        replace B_2 := B_2.step hW
        have S0 := S.defers; replace S := S1; clear S1
        refine w_go S rfl (op_load (t := (.int .u8)) (x := x0.2.1) S rfl ty5 rfl rfl rfl (RepAt.add 1 (RepAt.st B_2.at_)) ?_)
        clear S; intro a v_94 R_95 S
        obtain ⟨rfl, GR_95⟩ := RepV.int R_95
        refine wpList_nil ?_
        exact RPost.mk_ S rfl S0 ⟨rfl, GR_95⟩ (Below.refl _ _)
      refine RunAll.cons (eqv (.pointer (some ((⟨b_1, 0, .none⟩ : Addr).add (coff (.pair (.int .u16) (.pair (.int .u8) (.pair (.int .u8) (.pair (.int .u8) (.pair (.int .u8) (.pair (.int .u16) (.pair (.int .u16) (.pair (.int .u16) (.pair (.int .u8) (.pair (.int .u8) (.pair (.int .u8) (.int .u8)))))))))))) 2))))) [] rfl rfl ?_ ?_
      · intro W_ hW
        have S1 := S
        refine fill_nil S1 ?_; clear S1; intro a_ S1
        replace B_2 := B_2.step hW
        have S0 := S.defers; replace S := S1; clear S1
        refine wl_pure (l' := [(37, .pointer (some ((⟨b_1, 0, .none⟩ : Addr).add (coff (.pair (.int .u16) (.pair (.int .u8) (.pair (.int .u8) (.pair (.int .u8) (.pair (.int .u8) (.pair (.int .u16) (.pair (.int .u16) (.pair (.int .u16) (.pair (.int .u8) (.pair (.int .u8) (.pair (.int .u8) (.int .u8)))))))))))) 2)))), (1, .pointer (some (⟨b_1, 0, .none⟩ : Addr)))]) S tys tys_ok 1 (by kernel_rfl) ?_; clear S; intro a S
        refine wpList_nil ?_
        exact RPost.mk_ S rfl S0 rfl (Below.refl _ _)
      refine RunAll.cons (isI .u8 x0.2.2.1) [(eqv (.pointer (some ((⟨b_1, 0, .none⟩ : Addr).add (coff (.pair (.int .u16) (.pair (.int .u8) (.pair (.int .u8) (.pair (.int .u8) (.pair (.int .u8) (.pair (.int .u16) (.pair (.int .u16) (.pair (.int .u16) (.pair (.int .u8) (.pair (.int .u8) (.pair (.int .u8) (.int .u8)))))))))))) 2)))), 37)] rfl rfl ?_ ?_
      · intro W_ hW
        have S1 := S
        intro v_97 hF_96; obtain rfl : .pointer (some ((⟨b_1, 0, .none⟩ : Addr).add (coff (.pair (.int .u16) (.pair (.int .u8) (.pair (.int .u8) (.pair (.int .u8) (.pair (.int .u8) (.pair (.int .u16) (.pair (.int .u16) (.pair (.int .u16) (.pair (.int .u8) (.pair (.int .u8) (.pair (.int .u8) (.int .u8)))))))))))) 2))) = v_97 := Eq.symm hF_96
        replace S1 := S1.put (by decide : 37 < 69) (.pointer (some ((⟨b_1, 0, .none⟩ : Addr).add (coff (.pair (.int .u16) (.pair (.int .u8) (.pair (.int .u8) (.pair (.int .u8) (.pair (.int .u8) (.pair (.int .u16) (.pair (.int .u16) (.pair (.int .u16) (.pair (.int .u8) (.pair (.int .u8) (.pair (.int .u8) (.int .u8)))))))))))) 2))))
        refine fill_nil S1 ?_; clear S1; intro a_ S1
        replace B_2 := B_2.step hW
        have S0 := S.defers; replace S := S1; clear S1
        refine w_go S rfl (op_load (t := (.int .u8)) (x := x0.2.2.1) S rfl ty5 rfl rfl rfl (RepAt.add 2 (RepAt.st B_2.at_)) ?_)
        clear S; intro a v_98 R_99 S
        obtain ⟨rfl, GR_99⟩ := RepV.int R_99
        refine wpList_nil ?_
        exact RPost.mk_ S rfl S0 ⟨rfl, GR_99⟩ (Below.refl _ _)
      refine RunAll.cons (eqv (.pointer (some ((⟨b_1, 0, .none⟩ : Addr).add (coff (.pair (.int .u16) (.pair (.int .u8) (.pair (.int .u8) (.pair (.int .u8) (.pair (.int .u8) (.pair (.int .u16) (.pair (.int .u16) (.pair (.int .u16) (.pair (.int .u8) (.pair (.int .u8) (.pair (.int .u8) (.int .u8)))))))))))) 3))))) [] rfl rfl ?_ ?_
      · intro W_ hW
        have S1 := S
        refine fill_nil S1 ?_; clear S1; intro a_ S1
        replace B_2 := B_2.step hW
        have S0 := S.defers; replace S := S1; clear S1
        refine wl_pure (l' := [(39, .pointer (some ((⟨b_1, 0, .none⟩ : Addr).add (coff (.pair (.int .u16) (.pair (.int .u8) (.pair (.int .u8) (.pair (.int .u8) (.pair (.int .u8) (.pair (.int .u16) (.pair (.int .u16) (.pair (.int .u16) (.pair (.int .u8) (.pair (.int .u8) (.pair (.int .u8) (.int .u8)))))))))))) 3)))), (1, .pointer (some (⟨b_1, 0, .none⟩ : Addr)))]) S tys tys_ok 1 (by kernel_rfl) ?_; clear S; intro a S
        refine wpList_nil ?_
        exact RPost.mk_ S rfl S0 rfl (Below.refl _ _)
      refine RunAll.cons (isI .u8 x0.2.2.2.1) [(eqv (.pointer (some ((⟨b_1, 0, .none⟩ : Addr).add (coff (.pair (.int .u16) (.pair (.int .u8) (.pair (.int .u8) (.pair (.int .u8) (.pair (.int .u8) (.pair (.int .u16) (.pair (.int .u16) (.pair (.int .u16) (.pair (.int .u8) (.pair (.int .u8) (.pair (.int .u8) (.int .u8)))))))))))) 3)))), 39)] rfl rfl ?_ ?_
      · intro W_ hW
        have S1 := S
        intro v_101 hF_100; obtain rfl : .pointer (some ((⟨b_1, 0, .none⟩ : Addr).add (coff (.pair (.int .u16) (.pair (.int .u8) (.pair (.int .u8) (.pair (.int .u8) (.pair (.int .u8) (.pair (.int .u16) (.pair (.int .u16) (.pair (.int .u16) (.pair (.int .u8) (.pair (.int .u8) (.pair (.int .u8) (.int .u8)))))))))))) 3))) = v_101 := Eq.symm hF_100
        replace S1 := S1.put (by decide : 39 < 69) (.pointer (some ((⟨b_1, 0, .none⟩ : Addr).add (coff (.pair (.int .u16) (.pair (.int .u8) (.pair (.int .u8) (.pair (.int .u8) (.pair (.int .u8) (.pair (.int .u16) (.pair (.int .u16) (.pair (.int .u16) (.pair (.int .u8) (.pair (.int .u8) (.pair (.int .u8) (.int .u8)))))))))))) 3))))
        refine fill_nil S1 ?_; clear S1; intro a_ S1
        replace B_2 := B_2.step hW
        have S0 := S.defers; replace S := S1; clear S1
        refine w_go S rfl (op_load (t := (.int .u8)) (x := x0.2.2.2.1) S rfl ty5 rfl rfl rfl (RepAt.add 3 (RepAt.st B_2.at_)) ?_)
        clear S; intro a v_102 R_103 S
        obtain ⟨rfl, GR_103⟩ := RepV.int R_103
        refine wpList_nil ?_
        exact RPost.mk_ S rfl S0 ⟨rfl, GR_103⟩ (Below.refl _ _)
      refine RunAll.cons (eqv (.pointer (some ((⟨b_1, 0, .none⟩ : Addr).add (coff (.pair (.int .u16) (.pair (.int .u8) (.pair (.int .u8) (.pair (.int .u8) (.pair (.int .u8) (.pair (.int .u16) (.pair (.int .u16) (.pair (.int .u16) (.pair (.int .u8) (.pair (.int .u8) (.pair (.int .u8) (.int .u8)))))))))))) 4))))) [] rfl rfl ?_ ?_
      · intro W_ hW
        have S1 := S
        refine fill_nil S1 ?_; clear S1; intro a_ S1
        replace B_2 := B_2.step hW
        have S0 := S.defers; replace S := S1; clear S1
        refine wl_pure (l' := [(41, .pointer (some ((⟨b_1, 0, .none⟩ : Addr).add (coff (.pair (.int .u16) (.pair (.int .u8) (.pair (.int .u8) (.pair (.int .u8) (.pair (.int .u8) (.pair (.int .u16) (.pair (.int .u16) (.pair (.int .u16) (.pair (.int .u8) (.pair (.int .u8) (.pair (.int .u8) (.int .u8)))))))))))) 4)))), (1, .pointer (some (⟨b_1, 0, .none⟩ : Addr)))]) S tys tys_ok 1 (by kernel_rfl) ?_; clear S; intro a S
        refine wpList_nil ?_
        exact RPost.mk_ S rfl S0 rfl (Below.refl _ _)
      refine RunAll.cons (isI .u8 x0.2.2.2.2.1) [(eqv (.pointer (some ((⟨b_1, 0, .none⟩ : Addr).add (coff (.pair (.int .u16) (.pair (.int .u8) (.pair (.int .u8) (.pair (.int .u8) (.pair (.int .u8) (.pair (.int .u16) (.pair (.int .u16) (.pair (.int .u16) (.pair (.int .u8) (.pair (.int .u8) (.pair (.int .u8) (.int .u8)))))))))))) 4)))), 41)] rfl rfl ?_ ?_
      · intro W_ hW
        have S1 := S
        intro v_105 hF_104; obtain rfl : .pointer (some ((⟨b_1, 0, .none⟩ : Addr).add (coff (.pair (.int .u16) (.pair (.int .u8) (.pair (.int .u8) (.pair (.int .u8) (.pair (.int .u8) (.pair (.int .u16) (.pair (.int .u16) (.pair (.int .u16) (.pair (.int .u8) (.pair (.int .u8) (.pair (.int .u8) (.int .u8)))))))))))) 4))) = v_105 := Eq.symm hF_104
        replace S1 := S1.put (by decide : 41 < 69) (.pointer (some ((⟨b_1, 0, .none⟩ : Addr).add (coff (.pair (.int .u16) (.pair (.int .u8) (.pair (.int .u8) (.pair (.int .u8) (.pair (.int .u8) (.pair (.int .u16) (.pair (.int .u16) (.pair (.int .u16) (.pair (.int .u8) (.pair (.int .u8) (.pair (.int .u8) (.int .u8)))))))))))) 4))))
        refine fill_nil S1 ?_; clear S1; intro a_ S1
        replace B_2 := B_2.step hW
        have S0 := S.defers; replace S := S1; clear S1
        refine w_go S rfl (op_load (t := (.int .u8)) (x := x0.2.2.2.2.1) S rfl ty5 rfl rfl rfl (RepAt.add 4 (RepAt.st B_2.at_)) ?_)
        clear S; intro a v_106 R_107 S
        obtain ⟨rfl, GR_107⟩ := RepV.int R_107
        refine wpList_nil ?_
        exact RPost.mk_ S rfl S0 ⟨rfl, GR_107⟩ (Below.refl _ _)
      refine RunAll.cons (isRep (.sl (.int .u8)) (Kx K w.heap.size [some b_1]) (⟨[x0.2.1, x0.2.2.1, x0.2.2.2.1, x0.2.2.2.2.1], some 4⟩ : Sl (Int))) [(isI .u8 x0.2.1, 36), (isI .u8 x0.2.2.1, 38), (isI .u8 x0.2.2.2.1, 40), (isI .u8 x0.2.2.2.2.1, 42)] rfl rfl ?_ ?_
      · intro W_ hW
        have S1 := S
        rintro _ ⟨rfl, hF_108⟩
        replace S1 := S1.put (by decide : 36 < 69) (.int .u8 x0.2.1)
        rintro _ ⟨rfl, hF_110⟩
        replace S1 := S1.put (by decide : 38 < 69) (.int .u8 x0.2.2.1)
        rintro _ ⟨rfl, hF_112⟩
        replace S1 := S1.put (by decide : 40 < 69) (.int .u8 x0.2.2.2.1)
        rintro _ ⟨rfl, hF_114⟩
        replace S1 := S1.put (by decide : 42 < 69) (.int .u8 x0.2.2.2.2.1)
        refine fill_nil S1 ?_; clear S1; intro a_ S1
        replace W := W.step hW
        have S0 := S.defers; replace S := S1; clear S1
        refine w_go S rfl (op_buildSlice (K := K) (e := (.int .u8)) (vs := [.int .u8 x0.2.1, .int .u8 x0.2.2.1, .int .u8 x0.2.2.2.1, .int .u8 x0.2.2.2.2.1]) (xs := [x0.2.1, x0.2.2.1, x0.2.2.2.1, x0.2.2.2.2.1]) S W rfl ty23 rfl rfl (by kernel_rfl) rfl rfl rfl rfl rfl ⟨(RepV.mkInt hF_108), (RepV.mkInt hF_110), (RepV.mkInt hF_112), (RepV.mkInt hF_114), trivial⟩ ?_)
        clear S; intro a w_119 v_116 hb_118 R_117 S
        refine wpList_nil ?_
        exact RPost.mk_ S rfl S0 R_117 (hb_118)
      refine RunAll.cons (isS ((⟨[x0.2.1, x0.2.2.1, x0.2.2.2.1, x0.2.2.2.2.1], some 4⟩ : Sl (Int)).xs)) [(isRep (.sl (.int .u8)) (Kx K w.heap.size [some b_1]) (⟨[x0.2.1, x0.2.2.1, x0.2.2.2.1, x0.2.2.2.2.1], some 4⟩ : Sl (Int)), 43)] rfl rfl ?_ ?_
      · intro W_ hW
        have S1 := S
        intro v_121 hF_120; replace hF_120 : RepV _ _ _ _ _ := hF_120
        replace S1 := S1.put (by decide : 43 < 69) (v_121)
        refine fill_nil S1 ?_; clear S1; intro a_ S1
        replace W := W.step hW
        have S0 := S.defers; replace S := S1; clear S1
        refine w_go S rfl (op_str (K := _) S rfl ty23 ty9 rfl rfl rfl hF_120 ?_)
        clear S; intro a S
        refine wpList_nil ?_
        exact RPost.mk_ S rfl S0 ⟨rfl, hF_120.byt⟩ (Below.refl _ _)
      refine RunAll.cons (isS s_42) [(isS s_29, 34), (isS ((⟨[x0.2.1, x0.2.2.1, x0.2.2.2.1, x0.2.2.2.2.1], some 4⟩ : Sl (Int)).xs), 44)] rfl rfl ?_ ?_
      · intro W_ hW
        have S1 := S
        rintro _ ⟨rfl, hF_122⟩
        replace S1 := S1.put (by decide : 34 < 69) (.string (strOfNums s_29))
        rintro _ ⟨rfl, hF_124⟩
        replace S1 := S1.put (by decide : 44 < 69) (.string (strOfNums ((⟨[x0.2.1, x0.2.2.1, x0.2.2.2.1, x0.2.2.2.2.1], some 4⟩ : Sl (Int)).xs)))
        refine fill_nil S1 ?_; clear S1; intro a_ S1
        have S0 := S.defers; replace S := S1; clear S1
        refine w_go S rfl (op_cat S rfl rfl rfl rfl rfl es_42 ?_)
        clear S; intro a S
        refine wpList_nil ?_
        exact RPost.mk_ S rfl S0 ⟨rfl, (catS_ok hF_122 hF_124 es_42)⟩ (Below.refl _ _)
      refine RunAll.cons (eqv (.pointer (some ((⟨b_1, 0, .none⟩ : Addr).add (coff (.pair (.int .u16) (.pair (.int .u8) (.pair (.int .u8) (.pair (.int .u8) (.pair (.int .u8) (.pair (.int .u16) (.pair (.int .u16) (.pair (.int .u16) (.pair (.int .u8) (.pair (.int .u8) (.pair (.int .u8) (.int .u8)))))))))))) 5))))) [] rfl rfl ?_ ?_
      · intro W_ hW
        have S1 := S
        refine fill_nil S1 ?_; clear S1; intro a_ S1
        replace B_2 := B_2.step hW
        have S0 := S.defers; replace S := S1; clear S1
        refine wl_pure (l' := [(46, .pointer (some ((⟨b_1, 0, .none⟩ : Addr).add (coff (.pair (.int .u16) (.pair (.int .u8) (.pair (.int .u8) (.pair (.int .u8) (.pair (.int .u8) (.pair (.int .u16) (.pair (.int .u16) (.pair (.int .u16) (.pair (.int .u8) (.pair (.int .u8) (.pair (.int .u8) (.int .u8)))))))))))) 5)))), (1, .pointer (some (⟨b_1, 0, .none⟩ : Addr)))]) S tys tys_ok 1 (by kernel_rfl) ?_; clear S; intro a S
        refine wpList_nil ?_
        exact RPost.mk_ S rfl S0 rfl (Below.refl _ _)
      refine RunAll.cons (isI .u16 x0.2.2.2.2.2.1) [(eqv (.pointer (some ((⟨b_1, 0, .none⟩ : Addr).add (coff (.pair (.int .u16) (.pair (.int .u8) (.pair (.int .u8) (.pair (.int .u8) (.pair (.int .u8) (.pair (.int .u16) (.pair (.int .u16) (.pair (.int .u16) (.pair (.int .u8) (.pair (.int .u8) (.pair (.int .u8) (.int .u8)))))))))))) 5)))), 46)] rfl rfl ?_ ?_
      · intro W_ hW
        have S1 := S
        intro v_127 hF_126; obtain rfl : .pointer (some ((⟨b_1, 0, .none⟩ : Addr).add (coff (.pair (.int .u16) (.pair (.int .u8) (.pair (.int .u8) (.pair (.int .u8) (.pair (.int .u8) (.pair (.int .u16) (.pair (.int .u16) (.pair (.int .u16) (.pair (.int .u8) (.pair (.int .u8) (.pair (.int .u8) (.int .u8)))))))))))) 5))) = v_127 := Eq.symm hF_126
        replace S1 := S1.put (by decide : 46 < 69) (.pointer (some ((⟨b_1, 0, .none⟩ : Addr).add (coff (.pair (.int .u16) (.pair (.int .u8) (.pair (.int .u8) (.pair (.int .u8) (.pair (.int .u8) (.pair (.int .u16) (.pair (.int .u16) (.pair (.int .u16) (.pair (.int .u8) (.pair (.int .u8) (.pair (.int .u8) (.int .u8)))))))))))) 5))))
        refine fill_nil S1 ?_; clear S1; intro a_ S1
        replace B_2 := B_2.step hW
        have S0 := S.defers; replace S := S1; clear S1
        refine w_go S rfl (op_load (t := (.int .u16)) (x := x0.2.2.2.2.2.1) S rfl ty33 rfl rfl rfl (RepAt.add 5 (RepAt.st B_2.at_)) ?_)
        clear S; intro a v_128 R_129 S
        obtain ⟨rfl, GR_129⟩ := RepV.int R_129
        refine wpList_nil ?_
        exact RPost.mk_ S rfl S0 ⟨rfl, GR_129⟩ (Below.refl _ _)
      refine RunAll.cons (isS t_45) [(isI .u16 x0.2.2.2.2.2.1, 47)] rfl rfl ?_ ?_
      · intro W_ hW
        have S1 := S
        rintro _ ⟨rfl, hF_130⟩
        replace S1 := S1.put (by decide : 47 < 69) (.int .u16 x0.2.2.2.2.2.1)
        refine fill_nil S1 ?_; clear S1; intro a_ S1
        replace W := W.step hW
        have S0 := S.defers; replace S := S1; clear S1
        refine w_go S rfl (op_call (vs := [.int .u16 x0.2.2.2.2.2.1]) S rfl cb38 rfl rfl rfl (c38 (Kx K w.heap.size [some b_1]) n W_ x0.2.2.2.2.2.1 hF_130 et_45) ?_)
        rintro _ w_135 ⟨v_132, rfl, R_133, hb_134⟩; refine ⟨_, rfl, ?_⟩
        replace R_133 := RepV.back R_133 W
        clear S; intro a S
        obtain ⟨rfl, GR_133⟩ := RepV.str R_133
        refine wpList_nil ?_
        exact RPost.mk_ S rfl S0 ⟨rfl, GR_133⟩ (hb_134)
      refine RunAll.cons (isS s_50) [(isS s_42, 45), (isS t_45, 48)] rfl rfl ?_ ?_
      · intro W_ hW
        have S1 := S
        rintro _ ⟨rfl, hF_136⟩
        replace S1 := S1.put (by decide : 45 < 69) (.string (strOfNums s_42))
        rintro _ ⟨rfl, hF_138⟩
        replace S1 := S1.put (by decide : 48 < 69) (.string (strOfNums t_45))
        refine fill_nil S1 ?_; clear S1; intro a_ S1
        have S0 := S.defers; replace S := S1; clear S1
        refine w_go S rfl (op_cat S rfl rfl rfl rfl rfl es_50 ?_)
        clear S; intro a S
        refine wpList_nil ?_
        exact RPost.mk_ S rfl S0 ⟨rfl, (catS_ok hF_136 hF_138 es_50)⟩ (Below.refl _ _)
      refine RunAll.cons (eqv (.pointer (some ((⟨b_1, 0, .none⟩ : Addr).add (coff (.pair (.int .u16) (.pair (.int .u8) (.pair (.int .u8) (.pair (.int .u8) (.pair (.int .u8) (.pair (.int .u16) (.pair (.int .u16) (.pair (.int .u16) (.pair (.int .u8) (.pair (.int .u8) (.pair (.int .u8) (.int .u8)))))))))))) 6))))) [] rfl rfl ?_ ?_
      · intro W_ hW
        have S1 := S
        refine fill_nil S1 ?_; clear S1; intro a_ S1
        replace B_2 := B_2.step hW
        have S0 := S.defers; replace S := S1; clear S1
        refine wl_pure (l' := [(50, .pointer (some ((⟨b_1, 0, .none⟩ : Addr).add (coff (.pair (.int .u16) (.pair (.int .u8) (.pair (.int .u8) (.pair (.int .u8) (.pair (.int .u8) (.pair (.int .u16) (.pair (.int .u16) (.pair (.int .u16) (.pair (.int .u8) (.pair (.int .u8) (.pair (.int .u8) (.int .u8)))))))))))) 6)))), (1, .pointer (some (⟨b_1, 0, .none⟩ : Addr)))]) S tys tys_ok 1 (by kernel_rfl) ?_; clear S; intro a S
        refine wpList_nil ?_
        exact RPost.mk_ S rfl S0 rfl (Below.refl _ _)
      refine RunAll.cons (isI .u16 x0.2.2.2.2.2.2.1) [(eqv (.pointer (some ((⟨b_1, 0, .none⟩ : Addr).add (coff (.pair (.int .u16) (.pair (.int .u8) (.pair (.int .u8) (.pair (.int .u8) (.pair (.int .u8) (.pair (.int .u16) (.pair (.int .u16) (.pair (.int .u16) (.pair (.int .u8) (.pair (.int .u8) (.pair (.int .u8) (.int .u8)))))))))))) 6)))), 50)] rfl rfl ?_ ?_
      · intro W_ hW
        have S1 := S
        intro v_141 hF_140; obtain rfl : .pointer (some ((⟨b_1, 0, .none⟩ : Addr).add (coff (.pair (.int .u16) (.pair (.int .u8) (.pair (.int .u8) (.pair (.int .u8) (.pair (.int .u8) (.pair (.int .u16) (.pair (.int .u16) (.pair (.int .u16) (.pair (.int .u8) (.pair (.int .u8) (.pair (.int .u8) (.int .u8)))))))))))) 6))) = v_141 := Eq.symm hF_140
        replace S1 := S1.put (by decide : 50 < 69) (.pointer (some ((⟨b_1, 0, .none⟩ : Addr).add (coff (.pair (.int .u16) (.pair (.int .u8) (.pair (.int .u8) (.pair (.int .u8) (.pair (.int .u8) (.pair (.int .u16) (.pair (.int .u16) (.pair (.int .u16) (.pair (.int .u8) (.pair (.int .u8) (.pair (.int .u8) (.int .u8)))))))))))) 6))))
        refine fill_nil S1 ?_; clear S1; intro a_ S1
        replace B_2 := B_2.step hW
        have S0 := S.defers; replace S := S1; clear S1
        refine w_go S rfl (op_load (t := (.int .u16)) (x := x0.2.2.2.2.2.2.1) S rfl ty33 rfl rfl rfl (RepAt.add 6 (RepAt.st B_2.at_)) ?_)
        clear S; intro a v_142 R_143 S
        obtain ⟨rfl, GR_143⟩ := RepV.int R_143
        refine wpList_nil ?_
        exact RPost.mk_ S rfl S0 ⟨rfl, GR_143⟩ (Below.refl _ _)
      refine RunAll.cons (isS t_53) [(isI .u16 x0.2.2.2.2.2.2.1, 51)] rfl rfl ?_ ?_
      · intro W_ hW
        have S1 := S
        rintro _ ⟨rfl, hF_144⟩
        replace S1 := S1.put (by decide : 51 < 69) (.int .u16 x0.2.2.2.2.2.2.1)
        refine fill_nil S1 ?_; clear S1; intro a_ S1
        replace W := W.step hW
        have S0 := S.defers; replace S := S1; clear S1
        refine w_go S rfl (op_call (vs := [.int .u16 x0.2.2.2.2.2.2.1]) S rfl cb38 rfl rfl rfl (c38 (Kx K w.heap.size [some b_1]) n W_ x0.2.2.2.2.2.2.1 hF_144 et_53) ?_)
        rintro _ w_149 ⟨v_146, rfl, R_147, hb_148⟩; refine ⟨_, rfl, ?_⟩
        replace R_147 := RepV.back R_147 W
        clear S; intro a S
        obtain ⟨rfl, GR_147⟩ := RepV.str R_147
        refine wpList_nil ?_
        exact RPost.mk_ S rfl S0 ⟨rfl, GR_147⟩ (hb_148)
      refine RunAll.cons (isS s_58) [(isS s_50, 49), (isS t_53, 52)] rfl rfl ?_ ?_
      · intro W_ hW
        have S1 := S
        rintro _ ⟨rfl, hF_150⟩
        replace S1 := S1.put (by decide : 49 < 69) (.string (strOfNums s_50))
        rintro _ ⟨rfl, hF_152⟩
        replace S1 := S1.put (by decide : 52 < 69) (.string (strOfNums t_53))
        refine fill_nil S1 ?_; clear S1; intro a_ S1
        have S0 := S.defers; replace S := S1; clear S1
        refine w_go S rfl (op_cat S rfl rfl rfl rfl rfl es_58 ?_)
        clear S; intro a S
        refine wpList_nil ?_
        exact RPost.mk_ S rfl S0 ⟨rfl, (catS_ok hF_150 hF_152 es_58)⟩ (Below.refl _ _)
      refine RunAll.cons (eqv (.pointer (some ((⟨b_1, 0, .none⟩ : Addr).add (coff (.pair (.int .u16) (.pair (.int .u8) (.pair (.int .u8) (.pair (.int .u8) (.pair (.int .u8) (.pair (.int .u16) (.pair (.int .u16) (.pair (.int .u16) (.pair (.int .u8) (.pair (.int .u8) (.pair (.int .u8) (.int .u8)))))))))))) 7))))) [] rfl rfl ?_ ?_
      · intro W_ hW
        have S1 := S
        refine fill_nil S1 ?_; clear S1; intro a_ S1
        replace B_2 := B_2.step hW
        have S0 := S.defers; replace S := S1; clear S1
        refine wl_pure (l' := [(54, .pointer (some ((⟨b_1, 0, .none⟩ : Addr).add (coff (.pair (.int .u16) (.pair (.int .u8) (.pair (.int .u8) (.pair (.int .u8) (.pair (.int .u8) (.pair (.int .u16) (.pair (.int .u16) (.pair (.int .u16) (.pair (.int .u8) (.pair (.int .u8) (.pair (.int .u8) (.int .u8)))))))))))) 7)))), (1, .pointer (some (⟨b_1, 0, .none⟩ : Addr)))]) S tys tys_ok 1 (by kernel_rfl) ?_; clear S; intro a S
        refine wpList_nil ?_
        exact RPost.mk_ S rfl S0 rfl (Below.refl _ _)
      refine RunAll.cons (isI .u16 x0.2.2.2.2.2.2.2.1) [(eqv (.pointer (some ((⟨b_1, 0, .none⟩ : Addr).add (coff (.pair (.int .u16) (.pair (.int .u8) (.pair (.int .u8) (.pair (.int .u8) (.pair (.int .u8) (.pair (.int .u16) (.pair (.int .u16) (.pair (.int .u16) (.pair (.int .u8) (.pair (.int .u8) (.pair (.int .u8) (.int .u8)))))))))))) 7)))), 54)] rfl rfl ?_ ?_
      · intro W_ hW
        have S1 := S
        intro v_155 hF_154; obtain rfl : .pointer (some ((⟨b_1, 0, .none⟩ : Addr).add (coff (.pair (.int .u16) (.pair (.int .u8) (.pair (.int .u8) (.pair (.int .u8) (.pair (.int .u8) (.pair (.int .u16) (.pair (.int .u16) (.pair (.int .u16) (.pair (.int .u8) (.pair (.int .u8) (.pair (.int .u8) (.int .u8)))))))))))) 7))) = v_155 := Eq.symm hF_154
        replace S1 := S1.put (by decide : 54 < 69) (.pointer (some ((⟨b_1, 0, .none⟩ : Addr).add (coff (.pair (.int .u16) (.pair (.int .u8) (.pair (.int .u8) (.pair (.int .u8) (.pair (.int .u8) (.pair (.int .u16) (.pair (.int .u16) (.pair (.int .u16) (.pair (.int .u8) (.pair (.int .u8) (.pair (.int .u8) (.int .u8)))))))))))) 7))))
        refine fill_nil S1 ?_; clear S1; intro a_ S1
        replace B_2 := B_2.step hW
        have S0 := S.defers; replace S := S1; clear S1
        refine w_go S rfl (op_load (t := (.int .u16)) (x := x0.2.2.2.2.2.2.2.1) S rfl ty33 rfl rfl rfl (RepAt.add 7 (RepAt.st B_2.at_)) ?_)
        clear S; intro a v_156 R_157 S
        obtain ⟨rfl, GR_157⟩ := RepV.int R_157
        refine wpList_nil ?_
        exact RPost.mk_ S rfl S0 ⟨rfl, GR_157⟩ (Below.refl _ _)
      refine RunAll.cons (isS t_61) [(isI .u16 x0.2.2.2.2.2.2.2.1, 55)] rfl rfl ?_ ?_
      · intro W_ hW
        have S1 := S
        rintro _ ⟨rfl, hF_158⟩
        replace S1 := S1.put (by decide : 55 < 69) (.int .u16 x0.2.2.2.2.2.2.2.1)
        refine fill_nil S1 ?_; clear S1; intro a_ S1
        replace W := W.step hW
        have S0 := S.defers; replace S := S1; clear S1
        refine w_go S rfl (op_call (vs := [.int .u16 x0.2.2.2.2.2.2.2.1]) S rfl cb38 rfl rfl rfl (c38 (Kx K w.heap.size [some b_1]) n W_ x0.2.2.2.2.2.2.2.1 hF_158 et_61) ?_)
        rintro _ w_163 ⟨v_160, rfl, R_161, hb_162⟩; refine ⟨_, rfl, ?_⟩
        replace R_161 := RepV.back R_161 W
        clear S; intro a S
        obtain ⟨rfl, GR_161⟩ := RepV.str R_161
        refine wpList_nil ?_
        exact RPost.mk_ S rfl S0 ⟨rfl, GR_161⟩ (hb_162)
      refine RunAll.cons (isS s_66) [(isS s_58, 53), (isS t_61, 56)] rfl rfl ?_ ?_
      · intro W_ hW
        have S1 := S
        rintro _ ⟨rfl, hF_164⟩
        replace S1 := S1.put (by decide : 53 < 69) (.string (strOfNums s_58))
        rintro _ ⟨rfl, hF_166⟩
        replace S1 := S1.put (by decide : 56 < 69) (.string (strOfNums t_61))
        refine fill_nil S1 ?_; clear S1; intro a_ S1
        have S0 := S.defers; replace S := S1; clear S1
        refine w_go S rfl (op_cat S rfl rfl rfl rfl rfl es_66 ?_)
        clear S; intro a S
        refine wpList_nil ?_
        exact RPost.mk_ S rfl S0 ⟨rfl, (catS_ok hF_164 hF_166 es_66)⟩ (Below.refl _ _)
      refine RunAll.cons (eqv (.pointer (some ((⟨b_1, 0, .none⟩ : Addr).add (coff (.pair (.int .u16) (.pair (.int .u8) (.pair (.int .u8) (.pair (.int .u8) (.pair (.int .u8) (.pair (.int .u16) (.pair (.int .u16) (.pair (.int .u16) (.pair (.int .u8) (.pair (.int .u8) (.pair (.int .u8) (.int .u8)))))))))))) 8))))) [] rfl rfl ?_ ?_
      · intro W_ hW
        have S1 := S
        refine fill_nil S1 ?_; clear S1; intro a_ S1
        replace B_2 := B_2.step hW
        have S0 := S.defers; replace S := S1; clear S1
        refine wl_pure (l' := [(58, .pointer (some ((⟨b_1, 0, .none⟩ : Addr).add (coff (.pair (.int .u16) (.pair (.int .u8) (.pair (.int .u8) (.pair (.int .u8) (.pair (.int .u8) (.pair (.int .u16) (.pair (.int .u16) (.pair (.int .u16) (.pair (.int .u8) (.pair (.int .u8) (.pair (.int .u8) (.int .u8)))))))))))) 8)))), (1, .pointer (some (⟨b_1, 0, .none⟩ : Addr)))]) S tys tys_ok 1 (by kernel_rfl) ?_; clear S; intro a S
        refine wpList_nil ?_
        exact RPost.mk_ S rfl S0 rfl (Below.refl _ _)
      refine RunAll.cons (isI .u8 x0.2.2.2.2.2.2.2.2.1) [(eqv (.pointer (some ((⟨b_1, 0, .none⟩ : Addr).add (coff (.pair (.int .u16) (.pair (.int .u8) (.pair (.int .u8) (.pair (.int .u8) (.pair (.int .u8) (.pair (.int .u16) (.pair (.int .u16) (.pair (.int .u16) (.pair (.int .u8) (.pair (.int .u8) (.pair (.int .u8) (.int .u8)))))))))))) 8)))), 58)] rfl rfl ?_ ?_
      · intro W_ hW
        have S1 := S
        intro v_169 hF_168; obtain rfl : .pointer (some ((⟨b_1, 0, .none⟩ : Addr).add (coff (.pair (.int .u16) (.pair (.int .u8) (.pair (.int .u8) (.pair (.int .u8) (.pair (.int .u8) (.pair (.int .u16) (.pair (.int .u16) (.pair (.int .u16) (.pair (.int .u8) (.pair (.int .u8) (.pair (.int .u8) (.int .u8)))))))))))) 8))) = v_169 := Eq.symm hF_168
        replace S1 := S1.put (by decide : 58 < 69) (.pointer (some ((⟨b_1, 0, .none⟩ : Addr).add (coff (.pair (.int .u16) (.pair (.int .u8) (.pair (.int .u8) (.pair (.int .u8) (.pair (.int .u8) (.pair (.int .u16) (.pair (.int .u16) (.pair (.int .u16) (.pair (.int .u8) (.pair (.int .u8) (.pair (.int .u8) (.int .u8)))))))))))) 8))))
        refine fill_nil S1 ?_; clear S1; intro a_ S1
        replace B_2 := B_2.step hW
        have S0 := S.defers; replace S := S1; clear S1
        refine w_go S rfl (op_load (t := (.int .u8)) (x := x0.2.2.2.2.2.2.2.2.1) S rfl ty5 rfl rfl rfl (RepAt.add 8 (RepAt.st B_2.at_)) ?_)
        clear S; intro a v_170 R_171 S
        obtain ⟨rfl, GR_171⟩ := RepV.int R_171
        refine wpList_nil ?_
        exact RPost.mk_ S rfl S0 ⟨rfl, GR_171⟩ (Below.refl _ _)
      refine RunAll.cons (eqv (.pointer (some ((⟨b_1, 0, .none⟩ : Addr).add (coff (.pair (.int .u16) (.pair (.int .u8) (.pair (.int .u8) (.pair (.int .u8) (.pair (.int .u8) (.pair (.int .u16) (.pair (.int .u16) (.pair (.int .u16) (.pair (.int .u8) (.pair (.int .u8) (.pair (.int .u8) (.int .u8)))))))))))) 9))))) [] rfl rfl ?_ ?_
      · intro W_ hW
        have S1 := S
        refine fill_nil S1 ?_; clear S1; intro a_ S1
        replace B_2 := B_2.step hW
        have S0 := S.defers; replace S := S1; clear S1
        refine wl_pure (l' := [(60, .pointer (some ((⟨b_1, 0, .none⟩ : Addr).add (coff (.pair (.int .u16) (.pair (.int .u8) (.pair (.int .u8) (.pair (.int .u8) (.pair (.int .u8) (.pair (.int .u16) (.pair (.int .u16) (.pair (.int .u16) (.pair (.int .u8) (.pair (.int .u8) (.pair (.int .u8) (.int .u8)))))))))))) 9)))), (1, .pointer (some (⟨b_1, 0, .none⟩ : Addr)))]) S tys tys_ok 1 (by kernel_rfl) ?_; clear S; intro a S
        refine wpList_nil ?_
        exact RPost.mk_ S rfl S0 rfl (Below.refl _ _)
      refine RunAll.cons (isI .u8 x0.2.2.2.2.2.2.2.2.2.1) [(eqv (.pointer (some ((⟨b_1, 0, .none⟩ : Addr).add (coff (.pair (.int .u16) (.pair (.int .u8) (.pair (.int .u8) (.pair (.int .u8) (.pair (.int .u8) (.pair (.int .u16) (.pair (.int .u16) (.pair (.int .u16) (.pair (.int .u8) (.pair (.int .u8) (.pair (.int .u8) (.int .u8)))))))))))) 9)))), 60)] rfl rfl ?_ ?_
      · intro W_ hW
        have S1 := S
        intro v_173 hF_172; obtain rfl : .pointer (some ((⟨b_1, 0, .none⟩ : Addr).add (coff (.pair (.int .u16) (.pair (.int .u8) (.pair (.int .u8) (.pair (.int .u8) (.pair (.int .u8) (.pair (.int .u16) (.pair (.int .u16) (.pair (.int .u16) (.pair (.int .u8) (.pair (.int .u8) (.pair (.int .u8) (.int .u8)))))))))))) 9))) = v_173 := Eq.symm hF_172
        replace S1 := S1.put (by decide : 60 < 69) (.pointer (some ((⟨b_1, 0, .none⟩ : Addr).add (coff (.pair (.int .u16) (.pair (.int .u8) (.pair (.int .u8) (.pair (.int .u8) (.pair (.int .u8) (.pair (.int .u16) (.pair (.int .u16) (.pair (.int .u16) (.pair (.int .u8) (.pair (.int .u8) (.pair (.int .u8) (.int .u8)))))))))))) 9))))
        refine fill_nil S1 ?_; clear S1; intro a_ S1
        replace B_2 := B_2.step hW
        have S0 := S.defers; replace S := S1; clear S1
        refine w_go S rfl (op_load (t := (.int .u8)) (x := x0.2.2.2.2.2.2.2.2.2.1) S rfl ty5 rfl rfl rfl (RepAt.add 9 (RepAt.st B_2.at_)) ?_)
        clear S; intro a v_174 R_175 S
        obtain ⟨rfl, GR_175⟩ := RepV.int R_175
        refine wpList_nil ?_
        exact RPost.mk_ S rfl S0 ⟨rfl, GR_175⟩ (Below.refl _ _)
      refine RunAll.cons (eqv (.pointer (some ((⟨b_1, 0, .none⟩ : Addr).add (coff (.pair (.int .u16) (.pair (.int .u8) (.pair (.int .u8) (.pair (.int .u8) (.pair (.int .u8) (.pair (.int .u16) (.pair (.int .u16) (.pair (.int .u16) (.pair (.int .u8) (.pair (.int .u8) (.pair (.int .u8) (.int .u8)))))))))))) 10))))) [] rfl rfl ?_ ?_
      · intro W_ hW
        have S1 := S
        refine fill_nil S1 ?_; clear S1; intro a_ S1
        replace B_2 := B_2.step hW
        have S0 := S.defers; replace S := S1; clear S1
        refine wl_pure (l' := [(62, .pointer (some ((⟨b_1, 0, .none⟩ : Addr).add (coff (.pair (.int .u16) (.pair (.int .u8) (.pair (.int .u8) (.pair (.int .u8) (.pair (.int .u8) (.pair (.int .u16) (.pair (.int .u16) (.pair (.int .u16) (.pair (.int .u8) (.pair (.int .u8) (.pair (.int .u8) (.int .u8)))))))))))) 10)))), (1, .pointer (some (⟨b_1, 0, .none⟩ : Addr)))]) S tys tys_ok 1 (by kernel_rfl) ?_; clear S; intro a S
        refine wpList_nil ?_
        exact RPost.mk_ S rfl S0 rfl (Below.refl _ _)
      refine RunAll.cons (isI .u8 x0.2.2.2.2.2.2.2.2.2.2.1) [(eqv (.pointer (some ((⟨b_1, 0, .none⟩ : Addr).add (coff (.pair (.int .u16) (.pair (.int .u8) (.pair (.int .u8) (.pair (.int .u8) (.pair (.int .u8) (.pair (.int .u16) (.pair (.int .u16) (.pair (.int .u16) (.pair (.int .u8) (.pair (.int .u8) (.pair (.int .u8) (.int .u8)))))))))))) 10)))), 62)] rfl rfl ?_ ?_
      · intro W_ hW
        have S1 := S
        intro v_177 hF_176; obtain rfl : .pointer (some ((⟨b_1, 0, .none⟩ : Addr).add (coff (.pair (.int .u16) (.pair (.int .u8) (.pair (.int .u8) (.pair (.int .u8) (.pair (.int .u8) (.pair (.int .u16) (.pair (.int .u16) (.pair (.int .u16) (.pair (.int .u8) (.pair (.int .u8) (.pair (.int .u8) (.int .u8)))))))))))) 10))) = v_177 := Eq.symm hF_176
        replace S1 := S1.put (by decide : 62 < 69) (.pointer (some ((⟨b_1, 0, .none⟩ : Addr).add (coff (.pair (.int .u16) (.pair (.int .u8) (.pair (.int .u8) (.pair (.int .u8) (.pair (.int .u8) (.pair (.int .u16) (.pair (.int .u16) (.pair (.int .u16) (.pair (.int .u8) (.pair (.int .u8) (.pair (.int .u8) (.int .u8)))))))))))) 10))))
        refine fill_nil S1 ?_; clear S1; intro a_ S1
        replace B_2 := B_2.step hW
        have S0 := S.defers; replace S := S1; clear S1
        refine w_go S rfl (op_load (t := (.int .u8)) (x := x0.2.2.2.2.2.2.2.2.2.2.1) S rfl ty5 rfl rfl rfl (RepAt.add 10 (RepAt.st B_2.at_)) ?_)
        clear S; intro a v_178 R_179 S
        obtain ⟨rfl, GR_179⟩ := RepV.int R_179
        refine wpList_nil ?_
        exact RPost.mk_ S rfl S0 ⟨rfl, GR_179⟩ (Below.refl _ _)
      refine RunAll.cons (eqv (.pointer (some ((⟨b_1, 0, .none⟩ : Addr).add (coff (.pair (.int .u16) (.pair (.int .u8) (.pair (.int .u8) (.pair (.int .u8) (.pair (.int .u8) (.pair (.int .u16) (.pair (.int .u16) (.pair (.int .u16) (.pair (.int .u8) (.pair (.int .u8) (.pair (.int .u8) (.int .u8)))))))))))) 11))))) [] rfl rfl ?_ ?_
      · intro W_ hW
        have S1 := S
        refine fill_nil S1 ?_; clear S1; intro a_ S1
        replace B_2 := B_2.step hW
        have S0 := S.defers; replace S := S1; clear S1
        refine wl_pure (l' := [(64, .pointer (some ((⟨b_1, 0, .none⟩ : Addr).add (coff (.pair (.int .u16) (.pair (.int .u8) (.pair (.int .u8) (.pair (.int .u8) (.pair (.int .u8) (.pair (.int .u16) (.pair (.int .u16) (.pair (.int .u16) (.pair (.int .u8) (.pair (.int .u8) (.pair (.int .u8) (.int .u8)))))))))))) 11)))), (1, .pointer (some (⟨b_1, 0, .none⟩ : Addr)))]) S tys tys_ok 1 (by kernel_rfl) ?_; clear S; intro a S
        refine wpList_nil ?_
        exact RPost.mk_ S rfl S0 rfl (Below.refl _ _)
      refine RunAll.cons (isI .u8 x0.2.2.2.2.2.2.2.2.2.2.2) [(eqv (.pointer (some ((⟨b_1, 0, .none⟩ : Addr).add (coff (.pair (.int .u16) (.pair (.int .u8) (.pair (.int .u8) (.pair (.int .u8) (.pair (.int .u8) (.pair (.int .u16) (.pair (.int .u16) (.pair (.int .u16) (.pair (.int .u8) (.pair (.int .u8) (.pair (.int .u8) (.int .u8)))))))))))) 11)))), 64)] rfl rfl ?_ ?_
      · intro W_ hW
        have S1 := S
        intro v_181 hF_180; obtain rfl : .pointer (some ((⟨b_1, 0, .none⟩ : Addr).add (coff (.pair (.int .u16) (.pair (.int .u8) (.pair (.int .u8) (.pair (.int .u8) (.pair (.int .u8) (.pair (.int .u16) (.pair (.int .u16) (.pair (.int .u16) (.pair (.int .u8) (.pair (.int .u8) (.pair (.int .u8) (.int .u8)))))))))))) 11))) = v_181 := Eq.symm hF_180
        replace S1 := S1.put (by decide : 64 < 69) (.pointer (some ((⟨b_1, 0, .none⟩ : Addr).add (coff (.pair (.int .u16) (.pair (.int .u8) (.pair (.int .u8) (.pair (.int .u8) (.pair (.int .u8) (.pair (.int .u16) (.pair (.int .u16) (.pair (.int .u16) (.pair (.int .u8) (.pair (.int .u8) (.pair (.int .u8) (.int .u8)))))))))))) 11))))
        refine fill_nil S1 ?_; clear S1; intro a_ S1
        replace B_2 := B_2.step hW
        have S0 := S.defers; replace S := S1; clear S1
        refine w_go S rfl (op_load (t := (.int .u8)) (x := x0.2.2.2.2.2.2.2.2.2.2.2) S rfl ty5 rfl rfl rfl (RepAt.add 11 (RepAt.st B_2.at_)) ?_)
        clear S; intro a v_182 R_183 S
        obtain ⟨rfl, GR_183⟩ := RepV.int R_183
        refine wpList_nil ?_
        exact RPost.mk_ S rfl S0 ⟨rfl, GR_183⟩ (Below.refl _ _)
      refine RunAll.cons (isRep (.sl (.int .u8)) (Kx K w.heap.size [some b_1]) (⟨[x0.2.2.2.2.2.2.2.2.1, x0.2.2.2.2.2.2.2.2.2.1, x0.2.2.2.2.2.2.2.2.2.2.1, x0.2.2.2.2.2.2.2.2.2.2.2], some 4⟩ : Sl (Int))) [(isI .u8 x0.2.2.2.2.2.2.2.2.1, 59), (isI .u8 x0.2.2.2.2.2.2.2.2.2.1, 61), (isI .u8 x0.2.2.2.2.2.2.2.2.2.2.1, 63), (isI .u8 x0.2.2.2.2.2.2.2.2.2.2.2, 65)] rfl rfl ?_ ?_
      · intro W_ hW
        have S1 := S
        rintro _ ⟨rfl, hF_184⟩
        replace S1 := S1.put (by decide : 59 < 69) (.int .u8 x0.2.2.2.2.2.2.2.2.1)
        rintro _ ⟨rfl, hF_186⟩
        replace S1 := S1.put (by decide : 61 < 69) (.int .u8 x0.2.2.2.2.2.2.2.2.2.1)
        rintro _ ⟨rfl, hF_188⟩
        replace S1 := S1.put (by decide : 63 < 69) (.int .u8 x0.2.2.2.2.2.2.2.2.2.2.1)
        rintro _ ⟨rfl, hF_190⟩
        replace S1 := S1.put (by decide : 65 < 69) (.int .u8 x0.2.2.2.2.2.2.2.2.2.2.2)
        refine fill_nil S1 ?_; clear S1; intro a_ S1
        replace W := W.step hW
        have S0 := S.defers; replace S := S1; clear S1
        refine w_go S rfl (op_buildSlice (K := K) (e := (.int .u8)) (vs := [.int .u8 x0.2.2.2.2.2.2.2.2.1, .int .u8 x0.2.2.2.2.2.2.2.2.2.1, .int .u8 x0.2.2.2.2.2.2.2.2.2.2.1, .int .u8 x0.2.2.2.2.2.2.2.2.2.2.2]) (xs := [x0.2.2.2.2.2.2.2.2.1, x0.2.2.2.2.2.2.2.2.2.1, x0.2.2.2.2.2.2.2.2.2.2.1, x0.2.2.2.2.2.2.2.2.2.2.2]) S W rfl ty23 rfl rfl (by kernel_rfl) rfl rfl rfl rfl rfl ⟨(RepV.mkInt hF_184), (RepV.mkInt hF_186), (RepV.mkInt hF_188), (RepV.mkInt hF_190), trivial⟩ ?_)
        clear S; intro a w_195 v_192 hb_194 R_193 S
        refine wpList_nil ?_
        exact RPost.mk_ S rfl S0 R_193 (hb_194)
      refine RunAll.cons (isS ((⟨[x0.2.2.2.2.2.2.2.2.1, x0.2.2.2.2.2.2.2.2.2.1, x0.2.2.2.2.2.2.2.2.2.2.1, x0.2.2.2.2.2.2.2.2.2.2.2], some 4⟩ : Sl (Int)).xs)) [(isRep (.sl (.int .u8)) (Kx K w.heap.size [some b_1]) (⟨[x0.2.2.2.2.2.2.2.2.1, x0.2.2.2.2.2.2.2.2.2.1, x0.2.2.2.2.2.2.2.2.2.2.1, x0.2.2.2.2.2.2.2.2.2.2.2], some 4⟩ : Sl (Int)), 66)] rfl rfl ?_ ?_
      · intro W_ hW
        have S1 := S
        intro v_197 hF_196; replace hF_196 : RepV _ _ _ _ _ := hF_196
        replace S1 := S1.put (by decide : 66 < 69) (v_197)
        refine fill_nil S1 ?_; clear S1; intro a_ S1
        replace W := W.step hW
        have S0 := S.defers; replace S := S1; clear S1
        refine w_go S rfl (op_str (K := _) S rfl ty23 ty9 rfl rfl rfl hF_196 ?_)
        clear S; intro a S
        refine wpList_nil ?_
        exact RPost.mk_ S rfl S0 ⟨rfl, hF_196.byt⟩ (Below.refl _ _)
      refine RunAll.cons (isS s_79) [(isS s_66, 57), (isS ((⟨[x0.2.2.2.2.2.2.2.2.1, x0.2.2.2.2.2.2.2.2.2.1, x0.2.2.2.2.2.2.2.2.2.2.1, x0.2.2.2.2.2.2.2.2.2.2.2], some 4⟩ : Sl (Int)).xs), 67)] rfl rfl ?_ ?_
      · intro W_ hW
        have S1 := S
        rintro _ ⟨rfl, hF_198⟩
        replace S1 := S1.put (by decide : 57 < 69) (.string (strOfNums s_66))
        rintro _ ⟨rfl, hF_200⟩
        replace S1 := S1.put (by decide : 67 < 69) (.string (strOfNums ((⟨[x0.2.2.2.2.2.2.2.2.1, x0.2.2.2.2.2.2.2.2.2.1, x0.2.2.2.2.2.2.2.2.2.2.1, x0.2.2.2.2.2.2.2.2.2.2.2], some 4⟩ : Sl (Int)).xs)))
        refine fill_nil S1 ?_; clear S1; intro a_ S1
        have S0 := S.defers; replace S := S1; clear S1
        refine w_go S rfl (op_cat S rfl rfl rfl rfl rfl es_79 ?_)
        clear S; intro a S
        refine wpList_nil ?_
        exact RPost.mk_ S rfl S0 ⟨rfl, (catS_ok hF_198 hF_200 es_79)⟩ (Below.refl _ _)
      refine RunAll.cons (isS s_79) [(isS s_79, 68)] rfl rfl ?_ ?_
      · intro W_ hW
        have S1 := S
        rintro _ ⟨rfl, hF_202⟩
        replace S1 := S1.put (by decide : 68 < 69) (.string (strOfNums s_79))
        refine fill_nil S1 ?_; clear S1; intro a_ S1
        have S0 := S.defers; replace S := S1; clear S1
        refine wl_pure (l' := [(2, .string (strOfNums s_79)), (68, .string (strOfNums s_79)), (1, .pointer (some (⟨b_1, 0, .none⟩ : Addr)))]) S tys tys_ok 1 (by kernel_rfl) ?_; clear S; intro a S
        refine wpList_nil ?_
        exact RPost.mk_ S rfl S0 ⟨rfl, hF_202⟩ (Below.refl _ _)
      exact trivial
    intro w_204 hb_205
    refine EndE.some_ rfl ?_
    intro v_207 hF_206; obtain rfl : .pointer (some ((⟨b_1, 0, .none⟩ : Addr).add (coff (.pair (.int .u16) (.pair (.int .u8) (.pair (.int .u8) (.pair (.int .u8) (.pair (.int .u8) (.pair (.int .u16) (.pair (.int .u16) (.pair (.int .u16) (.pair (.int .u8) (.pair (.int .u8) (.pair (.int .u8) (.int .u8)))))))))))) 0))) = v_207 := Eq.symm hF_206
    replace S := S.put (by decide : 31 < 69) (.pointer (some ((⟨b_1, 0, .none⟩ : Addr).add (coff (.pair (.int .u16) (.pair (.int .u8) (.pair (.int .u8) (.pair (.int .u8) (.pair (.int .u8) (.pair (.int .u16) (.pair (.int .u16) (.pair (.int .u16) (.pair (.int .u8) (.pair (.int .u8) (.pair (.int .u8) (.int .u8)))))))))))) 0))))
    refine EndE.some_ rfl ?_
    rintro _ ⟨rfl, hF_208⟩
    replace S := S.put (by decide : 32 < 69) (.int .u16 x0.1)
    refine EndE.some_ rfl ?_
    rintro _ ⟨rfl, hF_210⟩
    replace S := S.put (by decide : 33 < 69) (.string (strOfNums t_24))
    refine EndE.some_ rfl ?_
    rintro _ ⟨rfl, hF_212⟩
    replace S := S.put (by decide : 34 < 69) (.string (strOfNums s_29))
    refine EndE.some_ rfl ?_
    intro v_215 hF_214; obtain rfl : .pointer (some ((⟨b_1, 0, .none⟩ : Addr).add (coff (.pair (.int .u16) (.pair (.int .u8) (.pair (.int .u8) (.pair (.int .u8) (.pair (.int .u8) (.pair (.int .u16) (.pair (.int .u16) (.pair (.int .u16) (.pair (.int .u8) (.pair (.int .u8) (.pair (.int .u8) (.int .u8)))))))))))) 1))) = v_215 := Eq.symm hF_214
    replace S := S.put (by decide : 35 < 69) (.pointer (some ((⟨b_1, 0, .none⟩ : Addr).add (coff (.pair (.int .u16) (.pair (.int .u8) (.pair (.int .u8) (.pair (.int .u8) (.pair (.int .u8) (.pair (.int .u16) (.pair (.int .u16) (.pair (.int .u16) (.pair (.int .u8) (.pair (.int .u8) (.pair (.int .u8) (.int .u8)))))))))))) 1))))
    refine EndE.some_ rfl ?_
    rintro _ ⟨rfl, hF_216⟩
    replace S := S.put (by decide : 36 < 69) (.int .u8 x0.2.1)
    refine EndE.some_ rfl ?_
    intro v_219 hF_218; obtain rfl : .pointer (some ((⟨b_1, 0, .none⟩ : Addr).add (coff (.pair (.int .u16) (.pair (.int .u8) (.pair (.int .u8) (.pair (.int .u8) (.pair (.int .u8) (.pair (.int .u16) (.pair (.int .u16) (.pair (.int .u16) (.pair (.int .u8) (.pair (.int .u8) (.pair (.int .u8) (.int .u8)))))))))))) 2))) = v_219 := Eq.symm hF_218
    replace S := S.put (by decide : 37 < 69) (.pointer (some ((⟨b_1, 0, .none⟩ : Addr).add (coff (.pair (.int .u16) (.pair (.int .u8) (.pair (.int .u8) (.pair (.int .u8) (.pair (.int .u8) (.pair (.int .u16) (.pair (.int .u16) (.pair (.int .u16) (.pair (.int .u8) (.pair (.int .u8) (.pair (.int .u8) (.int .u8)))))))))))) 2))))
    refine EndE.some_ rfl ?_
    rintro _ ⟨rfl, hF_220⟩
    replace S := S.put (by decide : 38 < 69) (.int .u8 x0.2.2.1)
    refine EndE.some_ rfl ?_
    intro v_223 hF_222; obtain rfl : .pointer (some ((⟨b_1, 0, .none⟩ : Addr).add (coff (.pair (.int .u16) (.pair (.int .u8) (.pair (.int .u8) (.pair (.int .u8) (.pair (.int .u8) (.pair (.int .u16) (.pair (.int .u16) (.pair (.int .u16) (.pair (.int .u8) (.pair (.int .u8) (.pair (.int .u8) (.int .u8)))))))))))) 3))) = v_223 := Eq.symm hF_222
    replace S := S.put (by decide : 39 < 69) (.pointer (some ((⟨b_1, 0, .none⟩ : Addr).add (coff (.pair (.int .u16) (.pair (.int .u8) (.pair (.int .u8) (.pair (.int .u8) (.pair (.int .u8) (.pair (.int .u16) (.pair (.int .u16) (.pair (.int .u16) (.pair (.int .u8) (.pair (.int .u8) (.pair (.int .u8) (.int .u8)))))))))))) 3))))
    refine EndE.some_ rfl ?_
    rintro _ ⟨rfl, hF_224⟩
    replace S := S.put (by decide : 40 < 69) (.int .u8 x0.2.2.2.1)
    refine EndE.some_ rfl ?_
    intro v_227 hF_226; obtain rfl : .pointer (some ((⟨b_1, 0, .none⟩ : Addr).add (coff (.pair (.int .u16) (.pair (.int .u8) (.pair (.int .u8) (.pair (.int .u8) (.pair (.int .u8) (.pair (.int .u16) (.pair (.int .u16) (.pair (.int .u16) (.pair (.int .u8) (.pair (.int .u8) (.pair (.int .u8) (.int .u8)))))))))))) 4))) = v_227 := Eq.symm hF_226
    replace S := S.put (by decide : 41 < 69) (.pointer (some ((⟨b_1, 0, .none⟩ : Addr).add (coff (.pair (.int .u16) (.pair (.int .u8) (.pair (.int .u8) (.pair (.int .u8) (.pair (.int .u8) (.pair (.int .u16) (.pair (.int .u16) (.pair (.int .u16) (.pair (.int .u8) (.pair (.int .u8) (.pair (.int .u8) (.int .u8)))))))))))) 4))))
    refine EndE.some_ rfl ?_
    rintro _ ⟨rfl, hF_228⟩
    replace S := S.put (by decide : 42 < 69) (.int .u8 x0.2.2.2.2.1)
    refine EndE.some_ rfl ?_
    intro v_231 hF_230; replace hF_230 : RepV _ _ _ _ _ := hF_230
    replace S := S.put (by decide : 43 < 69) (v_231)
    refine EndE.some_ rfl ?_
    rintro _ ⟨rfl, hF_232⟩
    replace S := S.put (by decide : 44 < 69) (.string (strOfNums ((⟨[x0.2.1, x0.2.2.1, x0.2.2.2.1, x0.2.2.2.2.1], some 4⟩ : Sl (Int)).xs)))
    refine EndE.some_ rfl ?_
    rintro _ ⟨rfl, hF_234⟩
    replace S := S.put (by decide : 45 < 69) (.string (strOfNums s_42))
    refine EndE.some_ rfl ?_
    intro v_237 hF_236; obtain rfl : .pointer (some ((⟨b_1, 0, .none⟩ : Addr).add (coff (.pair (.int .u16) (.pair (.int .u8) (.pair (.int .u8) (.pair (.int .u8) (.pair (.int .u8) (.pair (.int .u16) (.pair (.int .u16) (.pair (.int .u16) (.pair (.int .u8) (.pair (.int .u8) (.pair (.int .u8) (.int .u8)))))))))))) 5))) = v_237 := Eq.symm hF_236
    replace S := S.put (by decide : 46 < 69) (.pointer (some ((⟨b_1, 0, .none⟩ : Addr).add (coff (.pair (.int .u16) (.pair (.int .u8) (.pair (.int .u8) (.pair (.int .u8) (.pair (.int .u8) (.pair (.int .u16) (.pair (.int .u16) (.pair (.int .u16) (.pair (.int .u8) (.pair (.int .u8) (.pair (.int .u8) (.int .u8)))))))))))) 5))))
    refine EndE.some_ rfl ?_
    rintro _ ⟨rfl, hF_238⟩
    replace S := S.put (by decide : 47 < 69) (.int .u16 x0.2.2.2.2.2.1)
    refine EndE.some_ rfl ?_
    rintro _ ⟨rfl, hF_240⟩
    replace S := S.put (by decide : 48 < 69) (.string (strOfNums t_45))
    refine EndE.some_ rfl ?_
    rintro _ ⟨rfl, hF_242⟩
    replace S := S.put (by decide : 49 < 69) (.string (strOfNums s_50))
    refine EndE.some_ rfl ?_
    intro v_245 hF_244; obtain rfl : .pointer (some ((⟨b_1, 0, .none⟩ : Addr).add (coff (.pair (.int .u16) (.pair (.int .u8) (.pair (.int .u8) (.pair (.int .u8) (.pair (.int .u8) (.pair (.int .u16) (.pair (.int .u16) (.pair (.int .u16) (.pair (.int .u8) (.pair (.int .u8) (.pair (.int .u8) (.int .u8)))))))))))) 6))) = v_245 := Eq.symm hF_244
    replace S := S.put (by decide : 50 < 69) (.pointer (some ((⟨b_1, 0, .none⟩ : Addr).add (coff (.pair (.int .u16) (.pair (.int .u8) (.pair (.int .u8) (.pair (.int .u8) (.pair (.int .u8) (.pair (.int .u16) (.pair (.int .u16) (.pair (.int .u16) (.pair (.int .u8) (.pair (.int .u8) (.pair (.int .u8) (.int .u8)))))))))))) 6))))
    refine EndE.some_ rfl ?_
    rintro _ ⟨rfl, hF_246⟩
    replace S := S.put (by decide : 51 < 69) (.int .u16 x0.2.2.2.2.2.2.1)
    refine EndE.some_ rfl ?_
    rintro _ ⟨rfl, hF_248⟩
    replace S := S.put (by decide : 52 < 69) (.string (strOfNums t_53))
    refine EndE.some_ rfl ?_
    rintro _ ⟨rfl, hF_250⟩
    replace S := S.put (by decide : 53 < 69) (.string (strOfNums s_58))
    refine EndE.some_ rfl ?_
    intro v_253 hF_252; obtain rfl : .pointer (some ((⟨b_1, 0, .none⟩ : Addr).add (coff (.pair (.int .u16) (.pair (.int .u8) (.pair (.int .u8) (.pair (.int .u8) (.pair (.int .u8) (.pair (.int .u16) (.pair (.int .u16) (.pair (.int .u16) (.pair (.int .u8) (.pair (.int .u8) (.pair (.int .u8) (.int .u8)))))))))))) 7))) = v_253 := Eq.symm hF_252
    replace S := S.put (by decide : 54 < 69) (.pointer (some ((⟨b_1, 0, .none⟩ : Addr).add (coff (.pair (.int .u16) (.pair (.int .u8) (.pair (.int .u8) (.pair (.int .u8) (.pair (.int .u8) (.pair (.int .u16) (.pair (.int .u16) (.pair (.int .u16) (.pair (.int .u8) (.pair (.int .u8) (.pair (.int .u8) (.int .u8)))))))))))) 7))))
    refine EndE.some_ rfl ?_
    rintro _ ⟨rfl, hF_254⟩
    replace S := S.put (by decide : 55 < 69) (.int .u16 x0.2.2.2.2.2.2.2.1)
    refine EndE.some_ rfl ?_
    rintro _ ⟨rfl, hF_256⟩
    replace S := S.put (by decide : 56 < 69) (.string (strOfNums t_61))
    refine EndE.some_ rfl ?_
    rintro _ ⟨rfl, hF_258⟩
    replace S := S.put (by decide : 57 < 69) (.string (strOfNums s_66))
    refine EndE.some_ rfl ?_
    intro v_261 hF_260; obtain rfl : .pointer (some ((⟨b_1, 0, .none⟩ : Addr).add (coff (.pair (.int .u16) (.pair (.int .u8) (.pair (.int .u8) (.pair (.int .u8) (.pair (.int .u8) (.pair (.int .u16) (.pair (.int .u16) (.pair (.int .u16) (.pair (.int .u8) (.pair (.int .u8) (.pair (.int .u8) (.int .u8)))))))))))) 8))) = v_261 := Eq.symm hF_260
    replace S := S.put (by decide : 58 < 69) (.pointer (some ((⟨b_1, 0, .none⟩ : Addr).add (coff (.pair (.int .u16) (.pair (.int .u8) (.pair (.int .u8) (.pair (.int .u8) (.pair (.int .u8) (.pair (.int .u16) (.pair (.int .u16) (.pair (.int .u16) (.pair (.int .u8) (.pair (.int .u8) (.pair (.int .u8) (.int .u8)))))))))))) 8))))
    refine EndE.some_ rfl ?_
    rintro _ ⟨rfl, hF_262⟩
    replace S := S.put (by decide : 59 < 69) (.int .u8 x0.2.2.2.2.2.2.2.2.1)
    refine EndE.some_ rfl ?_
    intro v_265 hF_264; obtain rfl : .pointer (some ((⟨b_1, 0, .none⟩ : Addr).add (coff (.pair (.int .u16) (.pair (.int .u8) (.pair (.int .u8) (.pair (.int .u8) (.pair (.int .u8) (.pair (.int .u16) (.pair (.int .u16) (.pair (.int .u16) (.pair (.int .u8) (.pair (.int .u8) (.pair (.int .u8) (.int .u8)))))))))))) 9))) = v_265 := Eq.symm hF_264
    replace S := S.put (by decide : 60 < 69) (.pointer (some ((⟨b_1, 0, .none⟩ : Addr).add (coff (.pair (.int .u16) (.pair (.int .u8) (.pair (.int .u8) (.pair (.int .u8) (.pair (.int .u8) (.pair (.int .u16) (.pair (.int .u16) (.pair (.int .u16) (.pair (.int .u8) (.pair (.int .u8) (.pair (.int .u8) (.int .u8)))))))))))) 9))))
    refine EndE.some_ rfl ?_
    rintro _ ⟨rfl, hF_266⟩
    replace S := S.put (by decide : 61 < 69) (.int .u8 x0.2.2.2.2.2.2.2.2.2.1)
    refine EndE.some_ rfl ?_
    intro v_269 hF_268; obtain rfl : .pointer (some ((⟨b_1, 0, .none⟩ : Addr).add (coff (.pair (.int .u16) (.pair (.int .u8) (.pair (.int .u8) (.pair (.int .u8) (.pair (.int .u8) (.pair (.int .u16) (.pair (.int .u16) (.pair (.int .u16) (.pair (.int .u8) (.pair (.int .u8) (.pair (.int .u8) (.int .u8)))))))))))) 10))) = v_269 := Eq.symm hF_268
    replace S := S.put (by decide : 62 < 69) (.pointer (some ((⟨b_1, 0, .none⟩ : Addr).add (coff (.pair (.int .u16) (.pair (.int .u8) (.pair (.int .u8) (.pair (.int .u8) (.pair (.int .u8) (.pair (.int .u16) (.pair (.int .u16) (.pair (.int .u16) (.pair (.int .u8) (.pair (.int .u8) (.pair (.int .u8) (.int .u8)))))))))))) 10))))
    refine EndE.some_ rfl ?_
    rintro _ ⟨rfl, hF_270⟩
    replace S := S.put (by decide : 63 < 69) (.int .u8 x0.2.2.2.2.2.2.2.2.2.2.1)
    refine EndE.some_ rfl ?_
    intro v_273 hF_272; obtain rfl : .pointer (some ((⟨b_1, 0, .none⟩ : Addr).add (coff (.pair (.int .u16) (.pair (.int .u8) (.pair (.int .u8) (.pair (.int .u8) (.pair (.int .u8) (.pair (.int .u16) (.pair (.int .u16) (.pair (.int .u16) (.pair (.int .u8) (.pair (.int .u8) (.pair (.int .u8) (.int .u8)))))))))))) 11))) = v_273 := Eq.symm hF_272
    replace S := S.put (by decide : 64 < 69) (.pointer (some ((⟨b_1, 0, .none⟩ : Addr).add (coff (.pair (.int .u16) (.pair (.int .u8) (.pair (.int .u8) (.pair (.int .u8) (.pair (.int .u8) (.pair (.int .u16) (.pair (.int .u16) (.pair (.int .u16) (.pair (.int .u8) (.pair (.int .u8) (.pair (.int .u8) (.int .u8)))))))))))) 11))))
    refine EndE.some_ rfl ?_
    rintro _ ⟨rfl, hF_274⟩
    replace S := S.put (by decide : 65 < 69) (.int .u8 x0.2.2.2.2.2.2.2.2.2.2.2)
    refine EndE.some_ rfl ?_
    intro v_277 hF_276; replace hF_276 : RepV _ _ _ _ _ := hF_276
    replace S := S.put (by decide : 66 < 69) (v_277)
    refine EndE.some_ rfl ?_
    rintro _ ⟨rfl, hF_278⟩
    replace S := S.put (by decide : 67 < 69) (.string (strOfNums ((⟨[x0.2.2.2.2.2.2.2.2.1, x0.2.2.2.2.2.2.2.2.2.1, x0.2.2.2.2.2.2.2.2.2.2.1, x0.2.2.2.2.2.2.2.2.2.2.2], some 4⟩ : Sl (Int)).xs)))
    refine EndE.some_ rfl ?_
    rintro _ ⟨rfl, hF_280⟩
    replace S := S.put (by decide : 68 < 69) (.string (strOfNums s_79))
    refine EndE.some_ rfl ?_
    rintro _ ⟨rfl, hF_282⟩
    replace S := S.put (by decide : 2 < 69) (.string (strOfNums s_79))
    refine endE_nil S ?_; clear S; intro a S
    replace B_2 := B_2.step hb_205
    replace W := W.step hb_205
    refine then_n ?_
    replace S := S.sub (l' := [(2, .string (strOfNums s_79))]) (by exact ⟨rfl, trivial⟩)
    refine wp_ret ?_
    obtain rfl := Option.some.inj h
    exact b_ret1 S rfl rfl ⟨_, rfl, (RepV.mkStr hF_282), W.below⟩
theorem cb33 : callB Try.prog 33 = true := by kernel_rfl

end Go.Proofs.Ytojifdijcanbpaa
