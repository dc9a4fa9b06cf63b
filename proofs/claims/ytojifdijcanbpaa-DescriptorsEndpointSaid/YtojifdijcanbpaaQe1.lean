/- x. -/
import Derived.Test.YtojifdijcanbpaaQ1
set_option linter.unusedVariables false
set_option linter.unusedSimpArgs false
namespace Go.Proofs.Ytojifdijcanbpaa
open Go.RowKit

def p39 (n : Nat) (x0 : Int × Bool × Int × Int × Int) : Option ((Bool)) :=
  (if (decide (x0.1 < 1)) = false then some (decide (x0.1 > 15)) else some true).bind fun q_7 =>
  (if q_7 = false then some (decide (x0.2.2.2.1 < 1)) else some true).bind fun q_10 =>
  (if q_10 = false then some (decide (x0.2.2.2.1 > 1024)) else some true).bind fun q_13 =>
  if q_13 then (some false) else if (x0.2.2.1 == 2) then (some (x0.2.2.2.2 == 0)) else if (x0.2.2.1 == 1) then ((if (decide (x0.2.2.2.2 ≥ 1)) = true then some (decide (x0.2.2.2.2 ≤ 16)) else some false).bind fun q_22 => some q_22) else if (x0.2.2.1 == 3) then (some (decide (x0.2.2.2.2 ≥ 1))) else some false
set_option maxHeartbeats 4000000 in
set_option maxRecDepth 100000 in
/-- plugboard/descriptors.valid -/
theorem c39 (K : Nat → Prop) (n : Nat) (w : World) (x0 : Int × Bool × Int × Int × Int) (v0 : Value) (R0 : RepV (.st (.pair (.int .u8) (.pair .bool (.pair (.int .u8) (.pair (.int .u16) (.int .u8)))))) w K v0 x0) {r : (Bool)} (h : p39 n x0 = some r) :
    Calls Try.prog 39 #[v0] w (Ret1 .bool w (Kx K w.heap.size []) r) := by
  refine enter (args := [v0]) Try.func39 rfl 43 rfl rfl fun a S => ?_
  have W := Wd.start w
  replace R0 := R0.arg
  unfold p39 at h
  replace S : St 43 a [(0, v0)] := S
  refine wp_seq ?_
  refine wp_region_lit ?_
  refine w_go S rfl (op_box S rfl rfl rfl rfl rfl R0 ?_)
  clear S; intro a w_3 b_1 hb_4 B_2 S
  replace R0 := R0.box hb_4
  replace W := W.box hb_4
  refine wl_pure (l' := [(2, .bool false), (1, .pointer (some (⟨b_1, 0, .none⟩ : Addr))), (0, v0)]) S tys tys_ok 1 (by kernel_rfl) ?_
  clear S; intro a S
  refine wpList_nil ?_
  refine then_n ?_
  replace S := S.sub (l' := [(1, .pointer (some (⟨b_1, 0, .none⟩ : Addr)))]) (by exact ⟨rfl, trivial⟩)
  refine wp_seq ?_
  refine wp_seq ?_
  refine wp_region_lit ?_
  refine wl_pure (l' := [(3, .pointer (some ((⟨b_1, 0, .none⟩ : Addr).add (coff (.pair (.int .u8) (.pair .bool (.pair (.int .u8) (.pair (.int .u16) (.int .u8))))) 0)))), (1, .pointer (some (⟨b_1, 0, .none⟩ : Addr)))]) S tys tys_ok 1 (by kernel_rfl) ?_
  clear S; intro a S
  refine w_go S rfl (op_load (t := (.int .u8)) (x := x0.1) S rfl ty5 rfl rfl rfl (RepAt.add 0 (RepAt.st B_2.at_)) ?_)
  clear S; intro a v_5 R_6 S
  obtain ⟨rfl, GR_6⟩ := RepV.int R_6
  refine wl_pure (l' := [(6, .bool (decide (x0.1 < 1))), (5, .bool (decide (x0.1 < 1))), (4, .int .u8 x0.1), (3, .pointer (some ((⟨b_1, 0, .none⟩ : Addr).add (coff (.pair (.int .u8) (.pair .bool (.pair (.int .u8) (.pair (.int .u16) (.int .u8))))) 0)))), (1, .pointer (some (⟨b_1, 0, .none⟩ : Addr)))]) S tys tys_ok 2 (by kernel_rfl) ?_
  clear S; intro a S
  obtain ⟨q_7, eq_7, h⟩ := bindS h
  refine seg 4 (fun a_ w_ => w_3 = w_ ∧ St 43 a_ [(10, .bool q_7), (1, .pointer (some (⟨b_1, 0, .none⟩ : Addr)))]) ?_ ?_
  · by_cases hc : (decide (x0.1 < 1)) = false
    · rw [if_pos hc] at eq_7; rw [hc] at S
      refine wl_pure (l' := [(7, .pointer (some ((⟨b_1, 0, .none⟩ : Addr).add (coff (.pair (.int .u8) (.pair .bool (.pair (.int .u8) (.pair (.int .u16) (.int .u8))))) 0)))), (6, .bool false), (5, .bool false), (4, .int .u8 x0.1), (3, .pointer (some ((⟨b_1, 0, .none⟩ : Addr).add (coff (.pair (.int .u8) (.pair .bool (.pair (.int .u8) (.pair (.int .u16) (.int .u8))))) 0)))), (1, .pointer (some (⟨b_1, 0, .none⟩ : Addr)))]) S tys tys_ok 1 (by kernel_rfl) ?_
      clear S; intro a S
      refine w_go S rfl (op_load (t := (.int .u8)) (x := x0.1) S rfl ty5 rfl rfl rfl (RepAt.add 0 (RepAt.st B_2.at_)) ?_)
      clear S; intro a v_8 R_9 S
      obtain ⟨rfl, GR_9⟩ := RepV.int R_9
      refine wl_pure (l' := [(10, .bool (decide (x0.1 > 15))), (9, .bool (decide (x0.1 > 15))), (8, .int .u8 x0.1), (7, .pointer (some ((⟨b_1, 0, .none⟩ : Addr).add (coff (.pair (.int .u8) (.pair .bool (.pair (.int .u8) (.pair (.int .u16) (.int .u8))))) 0)))), (6, .bool false), (5, .bool false), (4, .int .u8 x0.1), (3, .pointer (some ((⟨b_1, 0, .none⟩ : Addr).add (coff (.pair (.int .u8) (.pair .bool (.pair (.int .u8) (.pair (.int .u16) (.int .u8))))) 0)))), (1, .pointer (some (⟨b_1, 0, .none⟩ : Addr)))]) S tys tys_ok 2 (by kernel_rfl) ?_
      clear S; intro a S
      obtain rfl := Option.some.inj eq_7
      exact ⟨rfl, S.sub (by exact ⟨rfl, rfl, trivial⟩)⟩
    · rw [if_neg hc] at eq_7; rw [show (decide (x0.1 < 1)) = true from (by simpa using hc)] at S
      refine wl_pure (l' := [(10, .bool true), (9, undef), (8, undef), (7, undef), (6, .bool true), (5, .bool true), (4, .int .u8 x0.1), (3, .pointer (some ((⟨b_1, 0, .none⟩ : Addr).add (coff (.pair (.int .u8) (.pair .bool (.pair (.int .u8) (.pair (.int .u16) (.int .u8))))) 0)))), (1, .pointer (some (⟨b_1, 0, .none⟩ : Addr)))]) S tys tys_ok 4 (by kernel_rfl) ?_
      clear S; intro a S
      obtain rfl := Option.some.inj eq_7
      exact ⟨rfl, S.sub (by exact ⟨rfl, rfl, trivial⟩)⟩
  clear S eq_7; rintro a _ ⟨rfl, S⟩
  refine wl_pure (l' := [(11, .bool q_7), (10, .bool q_7), (1, .pointer (some (⟨b_1, 0, .none⟩ : Addr)))]) S tys tys_ok 1 (by kernel_rfl) ?_
  clear S; intro a S
  obtain ⟨q_10, eq_10, h⟩ := bindS h
  refine seg 4 (fun a_ w_ => w_3 = w_ ∧ St 43 a_ [(15, .bool q_10), (1, .pointer (some (⟨b_1, 0, .none⟩ : Addr)))]) ?_ ?_
  · by_cases hc : q_7 = false
    · rw [if_pos hc] at eq_10; rw [hc] at S
      refine wl_pure (l' := [(12, .pointer (some ((⟨b_1, 0, .none⟩ : Addr).add (coff (.pair (.int .u8) (.pair .bool (.pair (.int .u8) (.pair (.int .u16) (.int .u8))))) 3)))), (11, .bool false), (10, .bool false), (1, .pointer (some (⟨b_1, 0, .none⟩ : Addr)))]) S tys tys_ok 1 (by kernel_rfl) ?_
      clear S; intro a S
      refine w_go S rfl (op_load (t := (.int .u16)) (x := x0.2.2.2.1) S rfl ty33 rfl rfl rfl (RepAt.add 3 (RepAt.st B_2.at_)) ?_)
      clear S; intro a v_11 R_12 S
      obtain ⟨rfl, GR_12⟩ := RepV.int R_12
      refine wl_pure (l' := [(15, .bool (decide (x0.2.2.2.1 < 1))), (14, .bool (decide (x0.2.2.2.1 < 1))), (13, .int .u16 x0.2.2.2.1), (12, .pointer (some ((⟨b_1, 0, .none⟩ : Addr).add (coff (.pair (.int .u8) (.pair .bool (.pair (.int .u8) (.pair (.int .u16) (.int .u8))))) 3)))), (11, .bool false), (10, .bool false), (1, .pointer (some (⟨b_1, 0, .none⟩ : Addr)))]) S tys tys_ok 2 (by kernel_rfl) ?_
      clear S; intro a S
      obtain rfl := Option.some.inj eq_10
      exact ⟨rfl, S.sub (by exact ⟨rfl, rfl, trivial⟩)⟩
    · rw [if_neg hc] at eq_10; rw [show q_7 = true from (by simpa using hc)] at S
      refine wl_pure (l' := [(15, .bool true), (14, undef), (13, undef), (12, undef), (11, .bool true), (10, .bool true), (1, .pointer (some (⟨b_1, 0, .none⟩ : Addr)))]) S tys tys_ok 4 (by kernel_rfl) ?_
      clear S; intro a S
      obtain rfl := Option.some.inj eq_10
      exact ⟨rfl, S.sub (by exact ⟨rfl, rfl, trivial⟩)⟩
  clear S eq_10; rintro a _ ⟨rfl, S⟩
  refine wl_pure (l' := [(16, .bool q_10), (15, .bool q_10), (1, .pointer (some (⟨b_1, 0, .none⟩ : Addr)))]) S tys tys_ok 1 (by kernel_rfl) ?_
  clear S; intro a S
  obtain ⟨q_13, eq_13, h⟩ := bindS h
  refine seg 4 (fun a_ w_ => w_3 = w_ ∧ St 43 a_ [(20, .bool q_13), (1, .pointer (some (⟨b_1, 0, .none⟩ : Addr)))]) ?_ ?_
  · by_cases hc : q_10 = false
    · rw [if_pos hc] at eq_13; rw [hc] at S
      refine wl_pure (l' := [(17, .pointer (some ((⟨b_1, 0, .none⟩ : Addr).add (coff (.pair (.int .u8) (.pair .bool (.pair (.int .u8) (.pair (.int .u16) (.int .u8))))) 3)))), (16, .bool false), (15, .bool false), (1, .pointer (some (⟨b_1, 0, .none⟩ : Addr)))]) S tys tys_ok 1 (by kernel_rfl) ?_
      clear S; intro a S
      refine w_go S rfl (op_load (t := (.int .u16)) (x := x0.2.2.2.1) S rfl ty33 rfl rfl rfl (RepAt.add 3 (RepAt.st B_2.at_)) ?_)
      clear S; intro a v_14 R_15 S
      obtain ⟨rfl, GR_15⟩ := RepV.int R_15
      refine wl_pure (l' := [(20, .bool (decide (x0.2.2.2.1 > 1024))), (19, .bool (decide (x0.2.2.2.1 > 1024))), (18, .int .u16 x0.2.2.2.1), (17, .pointer (some ((⟨b_1, 0, .none⟩ : Addr).add (coff (.pair (.int .u8) (.pair .bool (.pair (.int .u8) (.pair (.int .u16) (.int .u8))))) 3)))), (16, .bool false), (15, .bool false), (1, .pointer (some (⟨b_1, 0, .none⟩ : Addr)))]) S tys tys_ok 2 (by kernel_rfl) ?_
      clear S; intro a S
      obtain rfl := Option.some.inj eq_13
      exact ⟨rfl, S.sub (by exact ⟨rfl, rfl, trivial⟩)⟩
    · rw [if_neg hc] at eq_13; rw [show q_10 = true from (by simpa using hc)] at S
      refine wl_pure (l' := [(20, .bool true), (19, undef), (18, undef), (17, undef), (16, .bool true), (15, .bool true), (1, .pointer (some (⟨b_1, 0, .none⟩ : Addr)))]) S tys tys_ok 4 (by kernel_rfl) ?_
      clear S; intro a S
      obtain rfl := Option.some.inj eq_13
      exact ⟨rfl, S.sub (by exact ⟨rfl, rfl, trivial⟩)⟩
  clear S eq_13; rintro a _ ⟨rfl, S⟩
  refine wpList_nil ?_
  refine then_n ?_
  refine wp_cond_split (S.eval (show ev _ _ = some (.bool q_13) from rfl)) ?_ ?_
  · intro hc
    rw [if_pos hc] at h
    refine wp_seq ?_
    refine wp_region_lit ?_
    refine wl_pure (l' := [(2, .bool false), (20, .bool q_13), (1, .pointer (some (⟨b_1, 0, .none⟩ : Addr)))]) S tys tys_ok 1 (by kernel_rfl) ?_
    clear S; intro a S
    refine wpList_nil ?_
    refine then_n ?_
    replace S := S.sub (l' := [(2, .bool false)]) (by exact ⟨rfl, trivial⟩)
    refine wp_ret ?_
    refine then_r ?_
    obtain rfl := Option.some.inj h
    exact b_ret1 S rfl rfl ⟨_, rfl, RepV.mkBool, W.below⟩
  · intro hc
    rw [if_neg (Bool.eq_false_iff.1 hc)] at h
    refine wp_skip ?_
    refine then_n ?_
    replace S := S.sub (l' := [(1, .pointer (some (⟨b_1, 0, .none⟩ : Addr)))]) (by exact ⟨rfl, trivial⟩)
    refine wp_seq ?_
    refine wp_seq ?_
    refine wp_region_lit ?_
    refine wl_pure (l' := [(21, .pointer (some ((⟨b_1, 0, .none⟩ : Addr).add (coff (.pair (.int .u8) (.pair .bool (.pair (.int .u8) (.pair (.int .u16) (.int .u8))))) 2)))), (1, .pointer (some (⟨b_1, 0, .none⟩ : Addr)))]) S tys tys_ok 1 (by kernel_rfl) ?_
    clear S; intro a S
    refine w_go S rfl (op_load (t := (.int .u8)) (x := x0.2.2.1) S rfl ty32 rfl rfl rfl (RepAt.add 2 (RepAt.st B_2.at_)) ?_)
    clear S; intro a v_16 R_17 S
    obtain ⟨rfl, GR_17⟩ := RepV.int R_17
    refine wpList_nil ?_
    refine then_n ?_
    replace S := S.sub (l' := [(22, .int .u8 x0.2.2.1), (1, .pointer (some (⟨b_1, 0, .none⟩ : Addr)))]) (by exact ⟨rfl, rfl, trivial⟩)
    refine wp_block ?_
    refine wp_seq ?_
    refine wp_region_lit ?_
    refine wl_pure (l' := [(23, .bool (x0.2.2.1 == 2)), (24, .bool (x0.2.2.1 == 2)), (22, .int .u8 x0.2.2.1), (1, .pointer (some (⟨b_1, 0, .none⟩ : Addr)))]) S tys tys_ok 2 (by kernel_rfl) ?_
    clear S; intro a S
    refine wpList_nil ?_
    refine then_n ?_
    replace S := S.sub (l' := [(23, .bool (x0.2.2.1 == 2)), (22, .int .u8 x0.2.2.1), (1, .pointer (some (⟨b_1, 0, .none⟩ : Addr)))]) (by exact ⟨rfl, rfl, rfl, trivial⟩)
    refine wp_cond_split (S.eval (show ev _ _ = some (.bool (x0.2.2.1 == 2)) from rfl)) ?_ ?_
    · intro hc
      rw [if_pos hc] at h
      refine wp_seq ?_
      refine wp_region_lit ?_
      refine wl_pure (l' := [(25, .pointer (some ((⟨b_1, 0, .none⟩ : Addr).add (coff (.pair (.int .u8) (.pair .bool (.pair (.int .u8) (.pair (.int .u16) (.int .u8))))) 4)))), (23, .bool (x0.2.2.1 == 2)), (22, .int .u8 x0.2.2.1), (1, .pointer (some (⟨b_1, 0, .none⟩ : Addr)))]) S tys tys_ok 1 (by kernel_rfl) ?_
      clear S; intro a S
      refine w_go S rfl (op_load (t := (.int .u8)) (x := x0.2.2.2.2) S rfl ty5 rfl rfl rfl (RepAt.add 4 (RepAt.st B_2.at_)) ?_)
      clear S; intro a v_18 R_19 S
      obtain ⟨rfl, GR_19⟩ := RepV.int R_19
      refine wl_pure (l' := [(2, .bool (x0.2.2.2.2 == 0)), (27, .bool (x0.2.2.2.2 == 0)), (26, .int .u8 x0.2.2.2.2), (25, .pointer (some ((⟨b_1, 0, .none⟩ : Addr).add (coff (.pair (.int .u8) (.pair .bool (.pair (.int .u8) (.pair (.int .u16) (.int .u8))))) 4)))), (23, .bool (x0.2.2.1 == 2)), (22, .int .u8 x0.2.2.1), (1, .pointer (some (⟨b_1, 0, .none⟩ : Addr)))]) S tys tys_ok 2 (by kernel_rfl) ?_
      clear S; intro a S
      refine wpList_nil ?_
      refine then_n ?_
      replace S := S.sub (l' := [(2, .bool (x0.2.2.2.2 == 0))]) (by exact ⟨rfl, trivial⟩)
      refine wp_ret ?_
      refine blk_r ?_
      refine then_r ?_
      obtain rfl := Option.some.inj h
      exact b_ret1 S rfl rfl ⟨_, rfl, RepV.mkBool, W.below⟩
    · intro hc
      rw [if_neg (Bool.eq_false_iff.1 hc)] at h
      refine wp_seq ?_
      refine wp_region_lit ?_
      refine wl_pure (l' := [(28, .bool (x0.2.2.1 == 1)), (29, .bool (x0.2.2.1 == 1)), (23, .bool (x0.2.2.1 == 2)), (22, .int .u8 x0.2.2.1), (1, .pointer (some (⟨b_1, 0, .none⟩ : Addr)))]) S tys tys_ok 2 (by kernel_rfl) ?_
      clear S; intro a S
      refine wpList_nil ?_
      refine then_n ?_
      replace S := S.sub (l' := [(28, .bool (x0.2.2.1 == 1)), (22, .int .u8 x0.2.2.1), (1, .pointer (some (⟨b_1, 0, .none⟩ : Addr)))]) (by exact ⟨rfl, rfl, rfl, trivial⟩)
      refine wp_cond_split (S.eval (show ev _ _ = some (.bool (x0.2.2.1 == 1)) from rfl)) ?_ ?_
      · intro hc
        rw [if_pos hc] at h
        refine wp_seq ?_
        refine wp_region_lit ?_
        refine wl_pure (l' := [(30, .pointer (some ((⟨b_1, 0, .none⟩ : Addr).add (coff (.pair (.int .u8) (.pair .bool (.pair (.int .u8) (.pair (.int .u16) (.int .u8))))) 4)))), (28, .bool (x0.2.2.1 == 1)), (22, .int .u8 x0.2.2.1), (1, .pointer (some (⟨b_1, 0, .none⟩ : Addr)))]) S tys tys_ok 1 (by kernel_rfl) ?_
        clear S; intro a S
        refine w_go S rfl (op_load (t := (.int .u8)) (x := x0.2.2.2.2) S rfl ty5 rfl rfl rfl (RepAt.add 4 (RepAt.st B_2.at_)) ?_)
        clear S; intro a v_20 R_21 S
        obtain ⟨rfl, GR_21⟩ := RepV.int R_21
        refine wl_pure (l' := [(33, .bool (decide (x0.2.2.2.2 ≥ 1))), (32, .bool (decide (x0.2.2.2.2 ≥ 1))), (31, .int .u8 x0.2.2.2.2), (30, .pointer (some ((⟨b_1, 0, .none⟩ : Addr).add (coff (.pair (.int .u8) (.pair .bool (.pair (.int .u8) (.pair (.int .u16) (.int .u8))))) 4)))), (28, .bool (x0.2.2.1 == 1)), (22, .int .u8 x0.2.2.1), (1, .pointer (some (⟨b_1, 0, .none⟩ : Addr)))]) S tys tys_ok 2 (by kernel_rfl) ?_
        clear S; intro a S
        obtain ⟨q_22, eq_22, h⟩ := bindS h
        refine seg 4 (fun a_ w_ => w_3 = w_ ∧ St 43 a_ [(37, .bool q_22)]) ?_ ?_
        · by_cases hc : (decide (x0.2.2.2.2 ≥ 1)) = true
          · rw [if_pos hc] at eq_22; rw [hc] at S
            refine wl_pure (l' := [(34, .pointer (some ((⟨b_1, 0, .none⟩ : Addr).add (coff (.pair (.int .u8) (.pair .bool (.pair (.int .u8) (.pair (.int .u16) (.int .u8))))) 4)))), (33, .bool true), (32, .bool true), (31, .int .u8 x0.2.2.2.2), (30, .pointer (some ((⟨b_1, 0, .none⟩ : Addr).add (coff (.pair (.int .u8) (.pair .bool (.pair (.int .u8) (.pair (.int .u16) (.int .u8))))) 4)))), (28, .bool (x0.2.2.1 == 1)), (22, .int .u8 x0.2.2.1), (1, .pointer (some (⟨b_1, 0, .none⟩ : Addr)))]) S tys tys_ok 1 (by kernel_rfl) ?_
            clear S; intro a S
            refine w_go S rfl (op_load (t := (.int .u8)) (x := x0.2.2.2.2) S rfl ty5 rfl rfl rfl (RepAt.add 4 (RepAt.st B_2.at_)) ?_)
            clear S; intro a v_23 R_24 S
            obtain ⟨rfl, GR_24⟩ := RepV.int R_24
            refine wl_pure (l' := [(37, .bool (decide (x0.2.2.2.2 ≤ 16))), (36, .bool (decide (x0.2.2.2.2 ≤ 16))), (35, .int .u8 x0.2.2.2.2), (34, .pointer (some ((⟨b_1, 0, .none⟩ : Addr).add (coff (.pair (.int .u8) (.pair .bool (.pair (.int .u8) (.pair (.int .u16) (.int .u8))))) 4)))), (33, .bool true), (32, .bool true), (31, .int .u8 x0.2.2.2.2), (30, .pointer (some ((⟨b_1, 0, .none⟩ : Addr).add (coff (.pair (.int .u8) (.pair .bool (.pair (.int .u8) (.pair (.int .u16) (.int .u8))))) 4)))), (28, .bool (x0.2.2.1 == 1)), (22, .int .u8 x0.2.2.1), (1, .pointer (some (⟨b_1, 0, .none⟩ : Addr)))]) S tys tys_ok 2 (by kernel_rfl) ?_
            clear S; intro a S
            obtain rfl := Option.some.inj eq_22
            exact ⟨rfl, S.sub (by exact ⟨rfl, trivial⟩)⟩
          · rw [if_neg hc] at eq_22; rw [show (decide (x0.2.2.2.2 ≥ 1)) = false from Bool.eq_false_iff.2 hc] at S
            refine wl_pure (l' := [(37, .bool false), (36, undef), (35, undef), (34, undef), (33, .bool false), (32, .bool false), (31, .int .u8 x0.2.2.2.2), (30, .pointer (some ((⟨b_1, 0, .none⟩ : Addr).add (coff (.pair (.int .u8) (.pair .bool (.pair (.int .u8) (.pair (.int .u16) (.int .u8))))) 4)))), (28, .bool (x0.2.2.1 == 1)), (22, .int .u8 x0.2.2.1), (1, .pointer (some (⟨b_1, 0, .none⟩ : Addr)))]) S tys tys_ok 4 (by kernel_rfl) ?_
            clear S; intro a S
            obtain rfl := Option.some.inj eq_22
            exact ⟨rfl, S.sub (by exact ⟨rfl, trivial⟩)⟩
        clear S eq_22; rintro a _ ⟨rfl, S⟩
        refine wl_pure (l' := [(2, .bool q_22), (37, .bool q_22)]) S tys tys_ok 1 (by kernel_rfl) ?_
        clear S; intro a S
        refine wpList_nil ?_
        refine then_n ?_
        replace S := S.sub (l' := [(2, .bool q_22)]) (by exact ⟨rfl, trivial⟩)
        refine wp_ret ?_
        refine blk_r ?_
        refine then_r ?_
        obtain rfl := Option.some.inj h
        exact b_ret1 S rfl rfl ⟨_, rfl, RepV.mkBool, W.below⟩
      · intro hc
        rw [if_neg (Bool.eq_false_iff.1 hc)] at h
        refine wp_seq ?_
        refine wp_region_lit ?_
        refine wl_pure (l' := [(38, .bool (x0.2.2.1 == 3)), (39, .bool (x0.2.2.1 == 3)), (28, .bool (x0.2.2.1 == 1)), (22, .int .u8 x0.2.2.1), (1, .pointer (some (⟨b_1, 0, .none⟩ : Addr)))]) S tys tys_ok 2 (by kernel_rfl) ?_
        clear S; intro a S
        refine wpList_nil ?_
        refine then_n ?_
        replace S := S.sub (l' := [(38, .bool (x0.2.2.1 == 3)), (1, .pointer (some (⟨b_1, 0, .none⟩ : Addr)))]) (by exact ⟨rfl, rfl, trivial⟩)
        refine wp_cond_split (S.eval (show ev _ _ = some (.bool (x0.2.2.1 == 3)) from rfl)) ?_ ?_
        · intro hc
          rw [if_pos hc] at h
          refine wp_seq ?_
          refine wp_region_lit ?_
          refine wl_pure (l' := [(40, .pointer (some ((⟨b_1, 0, .none⟩ : Addr).add (coff (.pair (.int .u8) (.pair .bool (.pair (.int .u8) (.pair (.int .u16) (.int .u8))))) 4)))), (38, .bool (x0.2.2.1 == 3)), (1, .pointer (some (⟨b_1, 0, .none⟩ : Addr)))]) S tys tys_ok 1 (by kernel_rfl) ?_
          clear S; intro a S
          refine w_go S rfl (op_load (t := (.int .u8)) (x := x0.2.2.2.2) S rfl ty5 rfl rfl rfl (RepAt.add 4 (RepAt.st B_2.at_)) ?_)
          clear S; intro a v_25 R_26 S
          obtain ⟨rfl, GR_26⟩ := RepV.int R_26
          refine wl_pure (l' := [(2, .bool (decide (x0.2.2.2.2 ≥ 1))), (42, .bool (decide (x0.2.2.2.2 ≥ 1))), (41, .int .u8 x0.2.2.2.2), (40, .pointer (some ((⟨b_1, 0, .none⟩ : Addr).add (coff (.pair (.int .u8) (.pair .bool (.pair (.int .u8) (.pair (.int .u16) (.int .u8))))) 4)))), (38, .bool (x0.2.2.1 == 3)), (1, .pointer (some (⟨b_1, 0, .none⟩ : Addr)))]) S tys tys_ok 2 (by kernel_rfl) ?_
          clear S; intro a S
          refine wpList_nil ?_
          refine then_n ?_
          replace S := S.sub (l' := [(2, .bool (decide (x0.2.2.2.2 ≥ 1)))]) (by exact ⟨rfl, trivial⟩)
          refine wp_ret ?_
          refine blk_r ?_
          refine then_r ?_
          obtain rfl := Option.some.inj h
          exact b_ret1 S rfl rfl ⟨_, rfl, RepV.mkBool, W.below⟩
        · intro hc
          rw [if_neg (Bool.eq_false_iff.1 hc)] at h
          refine wp_skip ?_
          refine blk_n ?_
          refine then_n ?_
          replace S := S.sub (l' := []) trivial
          refine wp_seq ?_
          refine wp_region_lit ?_
          refine wl_pure (l' := [(2, .bool false)]) S tys tys_ok 1 (by kernel_rfl) ?_
          clear S; intro a S
          refine wpList_nil ?_
          refine then_n ?_
          refine wp_ret ?_
          obtain rfl := Option.some.inj h
          exact b_ret1 S rfl rfl ⟨_, rfl, RepV.mkBool, W.below⟩
theorem cb39 : callB Try.prog 39 = true := by kernel_rfl
def p24 (n : Nat) (x0 : Int × Bool × Int × Int × Int) : Option ((Int)) :=
  (if x0.2.1 then (some (bitsI .or .u8 (bitsI .and .u8 x0.1 15) 128)) else some (bitsI .and .u8 x0.1 15)).bind fun (j_9 : (Int)) =>
  some j_9
set_option maxHeartbeats 4000000 in
set_option maxRecDepth 100000 in
/-- plugboard/descriptors.Address -/
theorem c24 (K : Nat → Prop) (n : Nat) (w : World) (x0 : Int × Bool × Int × Int × Int) (v0 : Value) (R0 : RepV (.st (.pair (.int .u8) (.pair .bool (.pair (.int .u8) (.pair (.int .u16) (.int .u8)))))) w K v0 x0) {r : (Int)} (h : p24 n x0 = some r) :
    Calls Try.prog 24 #[v0] w (Ret1 (.int .u8) w (Kx K w.heap.size []) r) := by
  refine enter (args := [v0]) Try.func24 rfl 12 rfl rfl fun a S => ?_
  have W := Wd.start w
  replace R0 := R0.arg
  unfold p24 at h
  replace S : St 12 a [(0, v0)] := S
  refine wp_seq ?_
  refine wp_region_lit ?_
  refine w_go S rfl (op_box S rfl rfl rfl rfl rfl R0 ?_)
  clear S; intro a w_3 b_1 hb_4 B_2 S
  replace R0 := R0.box hb_4
  replace W := W.box hb_4
  refine wl_pure (l' := [(2, .int .u8 0), (1, .pointer (some (⟨b_1, 0, .none⟩ : Addr))), (0, v0)]) S tys tys_ok 1 (by kernel_rfl) ?_
  clear S; intro a S
  refine wpList_nil ?_
  refine then_n ?_
  replace S := S.sub (l' := [(1, .pointer (some (⟨b_1, 0, .none⟩ : Addr)))]) (by exact ⟨rfl, trivial⟩)
  refine wp_seq ?_
  refine wp_region_lit ?_
  refine wl_pure (l' := [(4, .pointer (some ((⟨b_1, 0, .none⟩ : Addr).add (coff (.pair (.int .u8) (.pair .bool (.pair (.int .u8) (.pair (.int .u16) (.int .u8))))) 0)))), (1, .pointer (some (⟨b_1, 0, .none⟩ : Addr)))]) S tys tys_ok 1 (by kernel_rfl) ?_
  clear S; intro a S
  refine w_go S rfl (op_load (t := (.int .u8)) (x := x0.1) S rfl ty5 rfl rfl rfl (RepAt.add 0 (RepAt.st B_2.at_)) ?_)
  clear S; intro a v_5 R_6 S
  obtain ⟨rfl, GR_6⟩ := RepV.int R_6
  refine wl_pure (l' := [(3, .int .u8 (bitsI .and .u8 x0.1 15)), (6, .int .u8 (bitsI .and .u8 x0.1 15)), (5, .int .u8 x0.1), (4, .pointer (some ((⟨b_1, 0, .none⟩ : Addr).add (coff (.pair (.int .u8) (.pair .bool (.pair (.int .u8) (.pair (.int .u16) (.int .u8))))) 0)))), (1, .pointer (some (⟨b_1, 0, .none⟩ : Addr)))]) S tys tys_ok 2 (by kernel_rfl) ?_
  clear S; intro a S
  refine wpList_nil ?_
  refine then_n ?_
  replace S := S.sub (l' := [(3, .int .u8 (bitsI .and .u8 x0.1 15)), (1, .pointer (some (⟨b_1, 0, .none⟩ : Addr)))]) (by exact ⟨rfl, rfl, trivial⟩)
  refine wp_seq ?_
  refine wp_seq ?_
  refine wp_region_lit ?_
  refine wl_pure (l' := [(7, .pointer (some ((⟨b_1, 0, .none⟩ : Addr).add (coff (.pair (.int .u8) (.pair .bool (.pair (.int .u8) (.pair (.int .u16) (.int .u8))))) 1)))), (3, .int .u8 (bitsI .and .u8 x0.1 15)), (1, .pointer (some (⟨b_1, 0, .none⟩ : Addr)))]) S tys tys_ok 1 (by kernel_rfl) ?_
  clear S; intro a S
  refine w_go S rfl (op_load (t := .bool) (x := x0.2.1) S rfl ty4 rfl rfl rfl (RepAt.add 1 (RepAt.st B_2.at_)) ?_)
  clear S; intro a v_7 R_8 S
  obtain rfl := RepV.bool R_8
  refine wpList_nil ?_
  refine then_n ?_
  replace S := S.sub (l' := [(8, .bool x0.2.1), (3, .int .u8 (bitsI .and .u8 x0.1 15))]) (by exact ⟨rfl, rfl, trivial⟩)
  obtain ⟨j_9, ej_9, h⟩ := bindS h
  refine wp_cut_ (fun a_ w_ => St 12 a_ [(3, .int .u8 j_9)] ∧ Wd w w_ [some b_1] ∧ InR .u8 j_9 ∧ Bx (.st (.pair (.int .u8) (.pair .bool (.pair (.int .u8) (.pair (.int .u16) (.int .u8)))))) 35 w_ (Kx K w.heap.size [some b_1]) b_1 x0) ?_ ?_
  · refine wp_cond_split (S.eval (show ev _ _ = some (.bool x0.2.1) from rfl)) ?_ ?_
    · intro hc
      rw [if_pos hc] at ej_9
      refine wp_region_lit ?_
      refine wl_pure (l' := [(3, .int .u8 (bitsI .or .u8 (bitsI .and .u8 x0.1 15) 128)), (10, .int .u8 (bitsI .or .u8 (bitsI .and .u8 x0.1 15) 128)), (9, .int .u8 (bitsI .and .u8 x0.1 15)), (8, .bool x0.2.1), (3, .int .u8 (bitsI .and .u8 x0.1 15))]) S tys tys_ok 3 (by kernel_rfl) ?_
      clear S; intro a S
      refine wpList_nil ?_
      refine then_n ?_
      obtain rfl := Option.some.inj ej_9
      exact ⟨S.sub (by exact ⟨rfl, trivial⟩), W, inR_bits, B_2⟩
    · intro hc
      rw [if_neg (Bool.eq_false_iff.1 hc)] at ej_9
      refine wp_skip ?_
      refine then_n ?_
      obtain rfl := Option.some.inj ej_9
      exact ⟨S.sub (by exact ⟨rfl, trivial⟩), W, inR_bits, B_2⟩
  clear S W; rintro a w_11 ⟨S, W, G_10, B_2⟩
  refine then_n ?_
  refine wp_seq ?_
  refine wp_region_lit ?_
  refine wl_pure (l' := [(2, .int .u8 j_9), (11, .int .u8 j_9), (3, .int .u8 j_9)]) S tys tys_ok 2 (by kernel_rfl) ?_
  clear S; intro a S
  refine wpList_nil ?_
  refine then_n ?_
  replace S := S.sub (l' := [(2, .int .u8 j_9)]) (by exact ⟨rfl, trivial⟩)
  refine wp_ret ?_
  obtain rfl := Option.some.inj h
  exact b_ret1 S rfl rfl ⟨_, rfl, (RepV.mkInt G_10), W.below⟩
theorem cb24 : callB Try.prog 24 = true := by kernel_rfl
def p23 (n : Nat) (x0 : Int × Bool × Int × Int × Int) : Option ((Sl (Int)) × (Int)) :=
  (p39 n x0).bind fun t_7 =>
  if (!t_7) then (some ((⟨[], some 0⟩ : Sl (Int)), 1)) else (p24 n x0).bind fun t_14 => (p42 n x0.2.2.2.1).bind fun t_23 => (p43 n x0.2.2.2.1).bind fun t_30 => (p41 n 5 (⟨[t_14, x0.2.2.1, t_23, t_30, x0.2.2.2.2], some 5⟩ : Sl (Int))).bind fun t_41 => some (t_41, 0)
set_option maxHeartbeats 4000000 in
set_option maxRecDepth 100000 in
/-- plugboard/descriptors.EncodeEndpoint -/
theorem c23 (K : Nat → Prop) (n : Nat) (w : World) (x0 : Int × Bool × Int × Int × Int) (v0 : Value) (R0 : RepV (.st (.pair (.int .u8) (.pair .bool (.pair (.int .u8) (.pair (.int .u16) (.int .u8)))))) w K v0 x0) {r : (Sl (Int)) × (Int)} (h : p23 n x0 = some r) :
    Calls Try.prog 23 #[v0] w (Ret2 (.sl (.int .u8)) (.int .i64) w (Kx K w.heap.size []) r) := by
  refine enter (args := [v0]) Try.func23 rfl 21 rfl rfl fun a S => ?_
  have W := Wd.start w
  replace R0 := R0.arg
  unfold p23 at h
  replace S : St 21 a [(0, v0)] := S
  refine wp_seq ?_
  refine wp_region_lit ?_
  refine w_go S rfl (op_box S rfl rfl rfl rfl rfl R0 ?_)
  clear S; intro a w_3 b_1 hb_4 B_2 S
  replace R0 := R0.box hb_4
  replace W := W.box hb_4
  refine wl_pure (l' := [(3, .int .i64 0), (2, .slice .none 0 0), (1, .pointer (some (⟨b_1, 0, .none⟩ : Addr))), (0, v0)]) S tys tys_ok 2 (by kernel_rfl) ?_
  clear S; intro a S
  refine wpList_nil ?_
  refine then_n ?_
  replace S := S.sub (l' := [(1, .pointer (some (⟨b_1, 0, .none⟩ : Addr)))]) (by exact ⟨rfl, trivial⟩)
  refine wp_seq ?_
  refine wp_seq ?_
  refine wp_region_lit ?_
  refine w_go S rfl (op_load (t := (.st (.pair (.int .u8) (.pair .bool (.pair (.int .u8) (.pair (.int .u16) (.int .u8))))))) (x := x0) S rfl ty35 rfl rfl rfl B_2.at_ ?_)
  clear S; intro a v_5 R_6 S
  obtain ⟨t_7, et_7, h⟩ := bindS h
  refine w_go S rfl (op_call (vs := [v_5]) S rfl cb39 rfl rfl rfl (c39 (Kx K w.heap.size [some b_1]) n w_3 x0 _ R_6 et_7) ?_)
  rintro _ w_11 ⟨v_8, rfl, R_9, hb_10⟩; refine ⟨_, rfl, ?_⟩
  replace R_9 := RepV.back R_9 W
  clear S; intro a S
  replace R_6 := R_6.step hb_10
  replace B_2 := B_2.step hb_10
  replace W := W.step hb_10
  obtain rfl := RepV.bool R_9
  refine wl_pure (l' := [(6, .bool (!t_7)), (5, .bool t_7), (4, v_5), (1, .pointer (some (⟨b_1, 0, .none⟩ : Addr)))]) S tys tys_ok 1 (by kernel_rfl) ?_
  clear S; intro a S
  refine wpList_nil ?_
  refine then_n ?_
  replace S := S.sub (l' := [(6, .bool (!t_7)), (1, .pointer (some (⟨b_1, 0, .none⟩ : Addr)))]) (by exact ⟨rfl, rfl, trivial⟩)
  refine wp_cond_split (S.eval (show ev _ _ = some (.bool (!t_7)) from rfl)) ?_ ?_
  · intro hc
    rw [if_pos hc] at h
    refine wp_seq ?_
    refine wp_region_lit ?_
    refine wl_pure (l' := [(3, .int .i64 1), (2, .slice .none 0 0), (6, .bool (!t_7)), (1, .pointer (some (⟨b_1, 0, .none⟩ : Addr)))]) S tys tys_ok 2 (by kernel_rfl) ?_
    clear S; intro a S
    refine wpList_nil ?_
    refine then_n ?_
    replace S := S.sub (l' := [(3, .int .i64 1), (2, .slice .none 0 0)]) (by exact ⟨rfl, rfl, trivial⟩)
    refine wp_ret ?_
    refine then_r ?_
    obtain rfl := Option.some.inj h
    exact b_ret2 S rfl rfl rfl ⟨_, _, rfl, RepV.nil, (RepV.mkInt (by decide)), W.below⟩
  · intro hc
    rw [if_neg (Bool.eq_false_iff.1 hc)] at h
    refine wp_skip ?_
    refine then_n ?_
    replace S := S.sub (l' := [(1, .pointer (some (⟨b_1, 0, .none⟩ : Addr)))]) (by exact ⟨rfl, trivial⟩)
    refine wp_seq ?_
    obtain ⟨t_14, et_14, h⟩ := bindS h
    obtain ⟨t_23, et_23, h⟩ := bindS h
    obtain ⟨t_30, et_30, h⟩ := bindS h
    obtain ⟨t_41, et_41, h⟩ := bindS h
    have hR : Rel (Kx K w.heap.size [some b_1]) Bl := Bl.rel _
    refine wp_region_all hR [isRep (.st (.pair (.int .u8) (.pair .bool (.pair (.int .u8) (.pair (.int .u16) (.int .u8)))))) (Kx K w.heap.size [some b_1]) x0, isI .u8 t_14, eqv (.pointer (some ((⟨b_1, 0, .none⟩ : Addr).add (coff (.pair (.int .u8) (.pair .bool (.pair (.int .u8) (.pair (.int .u16) (.int .u8))))) 2)))), isI .u8 x0.2.2.1, eqv (.pointer (some ((⟨b_1, 0, .none⟩ : Addr).add (coff (.pair (.int .u8) (.pair .bool (.pair (.int .u8) (.pair (.int .u16) (.int .u8))))) 3)))), isI .u16 x0.2.2.2.1, isI .u8 t_23, eqv (.pointer (some ((⟨b_1, 0, .none⟩ : Addr).add (coff (.pair (.int .u8) (.pair .bool (.pair (.int .u8) (.pair (.int .u16) (.int .u8))))) 3)))), isI .u16 x0.2.2.2.1, isI .u8 t_30, eqv (.pointer (some ((⟨b_1, 0, .none⟩ : Addr).add (coff (.pair (.int .u8) (.pair .bool (.pair (.int .u8) (.pair (.int .u16) (.int .u8))))) 4)))), isI .u8 x0.2.2.2.2, isRep (.sl (.int .u8)) (Kx K w.heap.size [some b_1]) (⟨[t_14, x0.2.2.1, t_23, t_30, x0.2.2.2.2], some 5⟩ : Sl (Int)), isRep (.sl (.int .u8)) (Kx K w.heap.size [some b_1]) t_41, isRep (.sl (.int .u8)) (Kx K w.heap.size [some b_1]) t_41, eqv (.int .i64 0)] [[], [(0, 7)], [], [(2, 9)], [], [(4, 11)], [(5, 12)], [], [(7, 14)], [(8, 15)], [], [(10, 17)], [(1, 8), (3, 10), (6, 13), (9, 16), (11, 18)], [(12, 19)], [(13, 20)], []] (by kernel_rfl) (by rw [S.size]; kernel_rfl) (by kernel_rfl) (by kernel_rfl) rfl ⟨(stab_rep hR), stab_I, (stab_eqv _), stab_I, (stab_eqv _), stab_I, stab_I, (stab_eqv _), stab_I, stab_I, (stab_eqv _), stab_I, (stab_rep hR), (stab_rep hR), (stab_rep hR), (stab_eqv _), trivial⟩ ?_ ?_
    ·
      refine RunAll.cons (isRep (.st (.pair (.int .u8) (.pair .bool (.pair (.int .u8) (.pair (.int .u16) (.int .u8)))))) (Kx K w.heap.size [some b_1]) x0) [] rfl rfl ?_ ?_
      · intro W_ hW
        have S1 := S
        refine fill_nil S1 ?_; clear S1; intro a_ S1
        replace B_2 := B_2.step hW
        have S0 := S.defers; replace S := S1; clear S1
        refine w_go S rfl (op_load (t := (.st (.pair (.int .u8) (.pair .bool (.pair (.int .u8) (.pair (.int .u16) (.int .u8))))))) (x := x0) S rfl ty35 rfl rfl rfl B_2.at_ ?_)
        clear S; intro a v_46 R_47 S
        refine wpList_nil ?_
        exact RPost.mk_ S rfl S0 R_47 (Below.refl _ _)
      refine RunAll.cons (isI .u8 t_14) [(isRep (.st (.pair (.int .u8) (.pair .bool (.pair (.int .u8) (.pair (.int .u16) (.int .u8)))))) (Kx K w.heap.size [some b_1]) x0, 7)] rfl rfl ?_ ?_
      · intro W_ hW
        have S1 := S
        intro v_49 hF_48; replace hF_48 : RepV _ _ _ _ _ := hF_48
        replace S1 := S1.put (by decide : 7 < 21) (v_49)
        refine fill_nil S1 ?_; clear S1; intro a_ S1
        replace W := W.step hW
        have S0 := S.defers; replace S := S1; clear S1
        refine w_go S rfl (op_call (vs := [v_49]) S rfl cb24 rfl rfl rfl (c24 (Kx K w.heap.size [some b_1]) n W_ x0 _ hF_48 et_14) ?_)
        rintro _ w_53 ⟨v_50, rfl, R_51, hb_52⟩; refine ⟨_, rfl, ?_⟩
        replace R_51 := RepV.back R_51 W
        clear S; intro a S
        obtain ⟨rfl, GR_51⟩ := RepV.int R_51
        refine wpList_nil ?_
        exact RPost.mk_ S rfl S0 ⟨rfl, GR_51⟩ (hb_52)
      refine RunAll.cons (eqv (.pointer (some ((⟨b_1, 0, .none⟩ : Addr).add (coff (.pair (.int .u8) (.pair .bool (.pair (.int .u8) (.pair (.int .u16) (.int .u8))))) 2))))) [] rfl rfl ?_ ?_
      · intro W_ hW
        have S1 := S
        refine fill_nil S1 ?_; clear S1; intro a_ S1
        replace B_2 := B_2.step hW
        have S0 := S.defers; replace S := S1; clear S1
        refine wl_pure (l' := [(9, .pointer (some ((⟨b_1, 0, .none⟩ : Addr).add (coff (.pair (.int .u8) (.pair .bool (.pair (.int .u8) (.pair (.int .u16) (.int .u8))))) 2)))), (1, .pointer (some (⟨b_1, 0, .none⟩ : Addr)))]) S tys tys_ok 1 (by kernel_rfl) ?_; clear S; intro a S
        refine wpList_nil ?_
        exact RPost.mk_ S rfl S0 rfl (Below.refl _ _)
      refine RunAll.cons (isI .u8 x0.2.2.1) [(eqv (.pointer (some ((⟨b_1, 0, .none⟩ : Addr).add (coff (.pair (.int .u8) (.pair .bool (.pair (.int .u8) (.pair (.int .u16) (.int .u8))))) 2)))), 9)] rfl rfl ?_ ?_
      · intro W_ hW
        have S1 := S
        intro v_55 hF_54; obtain rfl : v_55 = .pointer (some ((⟨b_1, 0, .none⟩ : Addr).add (coff (.pair (.int .u8) (.pair .bool (.pair (.int .u8) (.pair (.int .u16) (.int .u8))))) 2))) := hF_54
        replace S1 := S1.put (by decide : 9 < 21) (.pointer (some ((⟨b_1, 0, .none⟩ : Addr).add (coff (.pair (.int .u8) (.pair .bool (.pair (.int .u8) (.pair (.int .u16) (.int .u8))))) 2))))
        refine fill_nil S1 ?_; clear S1; intro a_ S1
        replace B_2 := B_2.step hW
        have S0 := S.defers; replace S := S1; clear S1
        refine w_go S rfl (op_load (t := (.int .u8)) (x := x0.2.2.1) S rfl ty32 rfl rfl rfl (RepAt.add 2 (RepAt.st B_2.at_)) ?_)
        clear S; intro a v_56 R_57 S
        obtain ⟨rfl, GR_57⟩ := RepV.int R_57
        refine wpList_nil ?_
        exact RPost.mk_ S rfl S0 ⟨rfl, GR_57⟩ (Below.refl _ _)
      refine RunAll.cons (eqv (.pointer (some ((⟨b_1, 0, .none⟩ : Addr).add (coff (.pair (.int .u8) (.pair .bool (.pair (.int .u8) (.pair (.int .u16) (.int .u8))))) 3))))) [] rfl rfl ?_ ?_
      · intro W_ hW
        have S1 := S
        refine fill_nil S1 ?_; clear S1; intro a_ S1
        replace B_2 := B_2.step hW
        have S0 := S.defers; replace S := S1; clear S1
        refine wl_pure (l' := [(11, .pointer (some ((⟨b_1, 0, .none⟩ : Addr).add (coff (.pair (.int .u8) (.pair .bool (.pair (.int .u8) (.pair (.int .u16) (.int .u8))))) 3)))), (1, .pointer (some (⟨b_1, 0, .none⟩ : Addr)))]) S tys tys_ok 1 (by kernel_rfl) ?_; clear S; intro a S
        refine wpList_nil ?_
        exact RPost.mk_ S rfl S0 rfl (Below.refl _ _)
      refine RunAll.cons (isI .u16 x0.2.2.2.1) [(eqv (.pointer (some ((⟨b_1, 0, .none⟩ : Addr).add (coff (.pair (.int .u8) (.pair .bool (.pair (.int .u8) (.pair (.int .u16) (.int .u8))))) 3)))), 11)] rfl rfl ?_ ?_
      · intro W_ hW
        have S1 := S
        intro v_59 hF_58; obtain rfl : v_59 = .pointer (some ((⟨b_1, 0, .none⟩ : Addr).add (coff (.pair (.int .u8) (.pair .bool (.pair (.int .u8) (.pair (.int .u16) (.int .u8))))) 3))) := hF_58
        replace S1 := S1.put (by decide : 11 < 21) (.pointer (some ((⟨b_1, 0, .none⟩ : Addr).add (coff (.pair (.int .u8) (.pair .bool (.pair (.int .u8) (.pair (.int .u16) (.int .u8))))) 3))))
        refine fill_nil S1 ?_; clear S1; intro a_ S1
        replace B_2 := B_2.step hW
        have S0 := S.defers; replace S := S1; clear S1
        refine w_go S rfl (op_load (t := (.int .u16)) (x := x0.2.2.2.1) S rfl ty33 rfl rfl rfl (RepAt.add 3 (RepAt.st B_2.at_)) ?_)
        clear S; intro a v_60 R_61 S
        obtain ⟨rfl, GR_61⟩ := RepV.int R_61
        refine wpList_nil ?_
        exact RPost.mk_ S rfl S0 ⟨rfl, GR_61⟩ (Below.refl _ _)
      refine RunAll.cons (isI .u8 t_23) [(isI .u16 x0.2.2.2.1, 12)] rfl rfl ?_ ?_
      · intro W_ hW
        have S1 := S
        rintro _ ⟨rfl, hF_62⟩
        replace S1 := S1.put (by decide : 12 < 21) (.int .u16 x0.2.2.2.1)
        refine fill_nil S1 ?_; clear S1; intro a_ S1
        replace W := W.step hW
        have S0 := S.defers; replace S := S1; clear S1
        refine w_go S rfl (op_call (vs := [.int .u16 x0.2.2.2.1]) S rfl cb42 rfl rfl rfl (c42 (Kx K w.heap.size [some b_1]) n W_ x0.2.2.2.1 hF_62 et_23) ?_)
        rintro _ w_67 ⟨v_64, rfl, R_65, hb_66⟩; refine ⟨_, rfl, ?_⟩
        replace R_65 := RepV.back R_65 W
        clear S; intro a S
        obtain ⟨rfl, GR_65⟩ := RepV.int R_65
        refine wpList_nil ?_
        exact RPost.mk_ S rfl S0 ⟨rfl, GR_65⟩ (hb_66)
      refine RunAll.cons (eqv (.pointer (some ((⟨b_1, 0, .none⟩ : Addr).add (coff (.pair (.int .u8) (.pair .bool (.pair (.int .u8) (.pair (.int .u16) (.int .u8))))) 3))))) [] rfl rfl ?_ ?_
      · intro W_ hW
        have S1 := S
        refine fill_nil S1 ?_; clear S1; intro a_ S1
        replace B_2 := B_2.step hW
        have S0 := S.defers; replace S := S1; clear S1
        refine wl_pure (l' := [(14, .pointer (some ((⟨b_1, 0, .none⟩ : Addr).add (coff (.pair (.int .u8) (.pair .bool (.pair (.int .u8) (.pair (.int .u16) (.int .u8))))) 3)))), (1, .pointer (some (⟨b_1, 0, .none⟩ : Addr)))]) S tys tys_ok 1 (by kernel_rfl) ?_; clear S; intro a S
        refine wpList_nil ?_
        exact RPost.mk_ S rfl S0 rfl (Below.refl _ _)
      refine RunAll.cons (isI .u16 x0.2.2.2.1) [(eqv (.pointer (some ((⟨b_1, 0, .none⟩ : Addr).add (coff (.pair (.int .u8) (.pair .bool (.pair (.int .u8) (.pair (.int .u16) (.int .u8))))) 3)))), 14)] rfl rfl ?_ ?_
      · intro W_ hW
        have S1 := S
        intro v_69 hF_68; obtain rfl : v_69 = .pointer (some ((⟨b_1, 0, .none⟩ : Addr).add (coff (.pair (.int .u8) (.pair .bool (.pair (.int .u8) (.pair (.int .u16) (.int .u8))))) 3))) := hF_68
        replace S1 := S1.put (by decide : 14 < 21) (.pointer (some ((⟨b_1, 0, .none⟩ : Addr).add (coff (.pair (.int .u8) (.pair .bool (.pair (.int .u8) (.pair (.int .u16) (.int .u8))))) 3))))
        refine fill_nil S1 ?_; clear S1; intro a_ S1
        replace B_2 := B_2.step hW
        have S0 := S.defers; replace S := S1; clear S1
        refine w_go S rfl (op_load (t := (.int .u16)) (x := x0.2.2.2.1) S rfl ty33 rfl rfl rfl (RepAt.add 3 (RepAt.st B_2.at_)) ?_)
        clear S; intro a v_70 R_71 S
        obtain ⟨rfl, GR_71⟩ := RepV.int R_71
        refine wpList_nil ?_
        exact RPost.mk_ S rfl S0 ⟨rfl, GR_71⟩ (Below.refl _ _)
      refine RunAll.cons (isI .u8 t_30) [(isI .u16 x0.2.2.2.1, 15)] rfl rfl ?_ ?_
      · intro W_ hW
        have S1 := S
        rintro _ ⟨rfl, hF_72⟩
        replace S1 := S1.put (by decide : 15 < 21) (.int .u16 x0.2.2.2.1)
        refine fill_nil S1 ?_; clear S1; intro a_ S1
        replace W := W.step hW
        have S0 := S.defers; replace S := S1; clear S1
        refine w_go S rfl (op_call (vs := [.int .u16 x0.2.2.2.1]) S rfl cb43 rfl rfl rfl (c43 (Kx K w.heap.size [some b_1]) n W_ x0.2.2.2.1 hF_72 et_30) ?_)
        rintro _ w_77 ⟨v_74, rfl, R_75, hb_76⟩; refine ⟨_, rfl, ?_⟩
        replace R_75 := RepV.back R_75 W
        clear S; intro a S
        obtain ⟨rfl, GR_75⟩ := RepV.int R_75
        refine wpList_nil ?_
        exact RPost.mk_ S rfl S0 ⟨rfl, GR_75⟩ (hb_76)
      refine RunAll.cons (eqv (.pointer (some ((⟨b_1, 0, .none⟩ : Addr).add (coff (.pair (.int .u8) (.pair .bool (.pair (.int .u8) (.pair (.int .u16) (.int .u8))))) 4))))) [] rfl rfl ?_ ?_
      · intro W_ hW
        have S1 := S
        refine fill_nil S1 ?_; clear S1; intro a_ S1
        replace B_2 := B_2.step hW
        have S0 := S.defers; replace S := S1; clear S1
        refine wl_pure (l' := [(17, .pointer (some ((⟨b_1, 0, .none⟩ : Addr).add (coff (.pair (.int .u8) (.pair .bool (.pair (.int .u8) (.pair (.int .u16) (.int .u8))))) 4)))), (1, .pointer (some (⟨b_1, 0, .none⟩ : Addr)))]) S tys tys_ok 1 (by kernel_rfl) ?_; clear S; intro a S
        refine wpList_nil ?_
        exact RPost.mk_ S rfl S0 rfl (Below.refl _ _)
      refine RunAll.cons (isI .u8 x0.2.2.2.2) [(eqv (.pointer (some ((⟨b_1, 0, .none⟩ : Addr).add (coff (.pair (.int .u8) (.pair .bool (.pair (.int .u8) (.pair (.int .u16) (.int .u8))))) 4)))), 17)] rfl rfl ?_ ?_
      · intro W_ hW
        have S1 := S
        intro v_79 hF_78; obtain rfl : v_79 = .pointer (some ((⟨b_1, 0, .none⟩ : Addr).add (coff (.pair (.int .u8) (.pair .bool (.pair (.int .u8) (.pair (.int .u16) (.int .u8))))) 4))) := hF_78
        replace S1 := S1.put (by decide : 17 < 21) (.pointer (some ((⟨b_1, 0, .none⟩ : Addr).add (coff (.pair (.int .u8) (.pair .bool (.pair (.int .u8) (.pair (.int .u16) (.int .u8))))) 4))))
        refine fill_nil S1 ?_; clear S1; intro a_ S1
        replace B_2 := B_2.step hW
        have S0 := S.defers; replace S := S1; clear S1
        refine w_go S rfl (op_load (t := (.int .u8)) (x := x0.2.2.2.2) S rfl ty5 rfl rfl rfl (RepAt.add 4 (RepAt.st B_2.at_)) ?_)
        clear S; intro a v_80 R_81 S
        obtain ⟨rfl, GR_81⟩ := RepV.int R_81
        refine wpList_nil ?_
        exact RPost.mk_ S rfl S0 ⟨rfl, GR_81⟩ (Below.refl _ _)
      refine RunAll.cons (isRep (.sl (.int .u8)) (Kx K w.heap.size [some b_1]) (⟨[t_14, x0.2.2.1, t_23, t_30, x0.2.2.2.2], some 5⟩ : Sl (Int))) [(isI .u8 t_14, 8), (isI .u8 x0.2.2.1, 10), (isI .u8 t_23, 13), (isI .u8 t_30, 16), (isI .u8 x0.2.2.2.2, 18)] rfl rfl ?_ ?_
      · intro W_ hW
        have S1 := S
        rintro _ ⟨rfl, hF_82⟩
        replace S1 := S1.put (by decide : 8 < 21) (.int .u8 t_14)
        rintro _ ⟨rfl, hF_84⟩
        replace S1 := S1.put (by decide : 10 < 21) (.int .u8 x0.2.2.1)
        rintro _ ⟨rfl, hF_86⟩
        replace S1 := S1.put (by decide : 13 < 21) (.int .u8 t_23)
        rintro _ ⟨rfl, hF_88⟩
        replace S1 := S1.put (by decide : 16 < 21) (.int .u8 t_30)
        rintro _ ⟨rfl, hF_90⟩
        replace S1 := S1.put (by decide : 18 < 21) (.int .u8 x0.2.2.2.2)
        refine fill_nil S1 ?_; clear S1; intro a_ S1
        replace W := W.step hW
        have S0 := S.defers; replace S := S1; clear S1
        refine w_go S rfl (op_buildSlice (K := K) (e := (.int .u8)) (vs := [.int .u8 t_14, .int .u8 x0.2.2.1, .int .u8 t_23, .int .u8 t_30, .int .u8 x0.2.2.2.2]) (xs := [t_14, x0.2.2.1, t_23, t_30, x0.2.2.2.2]) S W rfl ty23 rfl rfl (by kernel_rfl) rfl rfl rfl rfl rfl ⟨(RepV.mkInt hF_82), (RepV.mkInt hF_84), (RepV.mkInt hF_86), (RepV.mkInt hF_88), (RepV.mkInt hF_90), trivial⟩ ?_)
        clear S; intro a w_95 v_92 hb_94 R_93 S
        refine wpList_nil ?_
        exact RPost.mk_ S rfl S0 R_93 (hb_94)
      refine RunAll.cons (isRep (.sl (.int .u8)) (Kx K w.heap.size [some b_1]) t_41) [(isRep (.sl (.int .u8)) (Kx K w.heap.size [some b_1]) (⟨[t_14, x0.2.2.1, t_23, t_30, x0.2.2.2.2], some 5⟩ : Sl (Int)), 19)] rfl rfl ?_ ?_
      · intro W_ hW
        have S1 := S
        intro v_97 hF_96; replace hF_96 : RepV _ _ _ _ _ := hF_96
        replace S1 := S1.put (by decide : 19 < 21) (v_97)
        refine fill_nil S1 ?_; clear S1; intro a_ S1
        replace W := W.step hW
        have S0 := S.defers; replace S := S1; clear S1
        refine w_go S rfl (op_call (vs := [.int .u8 5, v_97]) S rfl cb41 rfl rfl rfl (c41 (Kx K w.heap.size [some b_1]) n W_ 5 (by decide) (⟨[t_14, x0.2.2.1, t_23, t_30, x0.2.2.2.2], some 5⟩ : Sl (Int)) _ hF_96 et_41) ?_)
        rintro _ w_101 ⟨v_98, rfl, R_99, hb_100⟩; refine ⟨_, rfl, ?_⟩
        replace R_99 := RepV.back R_99 W
        clear S; intro a S
        refine wpList_nil ?_
        exact RPost.mk_ S rfl S0 R_99 (hb_100)
      refine RunAll.cons (isRep (.sl (.int .u8)) (Kx K w.heap.size [some b_1]) t_41) [(isRep (.sl (.int .u8)) (Kx K w.heap.size [some b_1]) t_41, 20)] rfl rfl ?_ ?_
      · intro W_ hW
        have S1 := S
        intro v_103 hF_102; replace hF_102 : RepV _ _ _ _ _ := hF_102
        replace S1 := S1.put (by decide : 20 < 21) (v_103)
        refine fill_nil S1 ?_; clear S1; intro a_ S1
        have S0 := S.defers; replace S := S1; clear S1
        refine wl_pure (l' := [(2, v_103), (20, v_103), (1, .pointer (some (⟨b_1, 0, .none⟩ : Addr)))]) S tys tys_ok 1 (by kernel_rfl) ?_; clear S; intro a S
        refine wpList_nil ?_
        exact RPost.mk_ S rfl S0 hF_102 (Below.refl _ _)
      refine RunAll.cons (eqv (.int .i64 0)) [] rfl rfl ?_ ?_
      · intro W_ hW
        have S1 := S
        refine fill_nil S1 ?_; clear S1; intro a_ S1
        have S0 := S.defers; replace S := S1; clear S1
        refine wl_pure (l' := [(3, .int .i64 0), (1, .pointer (some (⟨b_1, 0, .none⟩ : Addr)))]) S tys tys_ok 1 (by kernel_rfl) ?_; clear S; intro a S
        refine wpList_nil ?_
        exact RPost.mk_ S rfl S0 rfl (Below.refl _ _)
      exact trivial
    intro w_104 hb_105
    refine EndE.some_ rfl ?_
    intro v_107 hF_106; replace hF_106 : RepV _ _ _ _ _ := hF_106
    replace S := S.put (by decide : 7 < 21) (v_107)
    refine EndE.some_ rfl ?_
    rintro _ ⟨rfl, hF_108⟩
    replace S := S.put (by decide : 8 < 21) (.int .u8 t_14)
    refine EndE.some_ rfl ?_
    intro v_111 hF_110; obtain rfl : v_111 = .pointer (some ((⟨b_1, 0, .none⟩ : Addr).add (coff (.pair (.int .u8) (.pair .bool (.pair (.int .u8) (.pair (.int .u16) (.int .u8))))) 2))) := hF_110
    replace S := S.put (by decide : 9 < 21) (.pointer (some ((⟨b_1, 0, .none⟩ : Addr).add (coff (.pair (.int .u8) (.pair .bool (.pair (.int .u8) (.pair (.int .u16) (.int .u8))))) 2))))
    refine EndE.some_ rfl ?_
    rintro _ ⟨rfl, hF_112⟩
    replace S := S.put (by decide : 10 < 21) (.int .u8 x0.2.2.1)
    refine EndE.some_ rfl ?_
    intro v_115 hF_114; obtain rfl : v_115 = .pointer (some ((⟨b_1, 0, .none⟩ : Addr).add (coff (.pair (.int .u8) (.pair .bool (.pair (.int .u8) (.pair (.int .u16) (.int .u8))))) 3))) := hF_114
    replace S := S.put (by decide : 11 < 21) (.pointer (some ((⟨b_1, 0, .none⟩ : Addr).add (coff (.pair (.int .u8) (.pair .bool (.pair (.int .u8) (.pair (.int .u16) (.int .u8))))) 3))))
    refine EndE.some_ rfl ?_
    rintro _ ⟨rfl, hF_116⟩
    replace S := S.put (by decide : 12 < 21) (.int .u16 x0.2.2.2.1)
    refine EndE.some_ rfl ?_
    rintro _ ⟨rfl, hF_118⟩
    replace S := S.put (by decide : 13 < 21) (.int .u8 t_23)
    refine EndE.some_ rfl ?_
    intro v_121 hF_120; obtain rfl : v_121 = .pointer (some ((⟨b_1, 0, .none⟩ : Addr).add (coff (.pair (.int .u8) (.pair .bool (.pair (.int .u8) (.pair (.int .u16) (.int .u8))))) 3))) := hF_120
    replace S := S.put (by decide : 14 < 21) (.pointer (some ((⟨b_1, 0, .none⟩ : Addr).add (coff (.pair (.int .u8) (.pair .bool (.pair (.int .u8) (.pair (.int .u16) (.int .u8))))) 3))))
    refine EndE.some_ rfl ?_
    rintro _ ⟨rfl, hF_122⟩
    replace S := S.put (by decide : 15 < 21) (.int .u16 x0.2.2.2.1)
    refine EndE.some_ rfl ?_
    rintro _ ⟨rfl, hF_124⟩
    replace S := S.put (by decide : 16 < 21) (.int .u8 t_30)
    refine EndE.some_ rfl ?_
    intro v_127 hF_126; obtain rfl : v_127 = .pointer (some ((⟨b_1, 0, .none⟩ : Addr).add (coff (.pair (.int .u8) (.pair .bool (.pair (.int .u8) (.pair (.int .u16) (.int .u8))))) 4))) := hF_126
    replace S := S.put (by decide : 17 < 21) (.pointer (some ((⟨b_1, 0, .none⟩ : Addr).add (coff (.pair (.int .u8) (.pair .bool (.pair (.int .u8) (.pair (.int .u16) (.int .u8))))) 4))))
    refine EndE.some_ rfl ?_
    rintro _ ⟨rfl, hF_128⟩
    replace S := S.put (by decide : 18 < 21) (.int .u8 x0.2.2.2.2)
    refine EndE.some_ rfl ?_
    intro v_131 hF_130; replace hF_130 : RepV _ _ _ _ _ := hF_130
    replace S := S.put (by decide : 19 < 21) (v_131)
    refine EndE.some_ rfl ?_
    intro v_133 hF_132; replace hF_132 : RepV _ _ _ _ _ := hF_132
    replace S := S.put (by decide : 20 < 21) (v_133)
    refine EndE.some_ rfl ?_
    intro v_135 hF_134; replace hF_134 : RepV _ _ _ _ _ := hF_134
    replace S := S.put (by decide : 2 < 21) (v_135)
    refine EndE.some_ rfl ?_
    intro v_137 hF_136; obtain rfl : v_137 = .int .i64 0 := hF_136
    replace S := S.put (by decide : 3 < 21) (.int .i64 0)
    refine endE_nil S ?_; clear S; intro a S
    replace B_2 := B_2.step hb_105
    replace W := W.step hb_105
    refine then_n ?_
    replace S := S.sub (l' := [(3, .int .i64 0), (2, v_135)]) (by exact ⟨rfl, rfl, trivial⟩)
    refine wp_ret ?_
    obtain rfl := Option.some.inj h
    exact b_ret2 S rfl rfl rfl ⟨_, _, rfl, hF_134.out, (RepV.mkInt (by decide)), W.below⟩
theorem cb23 : callB Try.prog 23 = true := by kernel_rfl
def p25 (n : Nat) (x0 : Int × Bool × Int × Int × Int) : Option ((Int)) :=
  if x0.2.1 then ((remI .u8 x0.1 16).bind fun x_9 => some (IntKind.wrap .u8 (x_9 + 128))) else (remI .u8 x0.1 16).bind fun x_12 => some x_12
set_option maxHeartbeats 4000000 in
set_option maxRecDepth 100000 in
/-- plugboard/plugboardlaw13.address -/
theorem c25 (K : Nat → Prop) (n : Nat) (w : World) (x0 : Int × Bool × Int × Int × Int) (v0 : Value) (R0 : RepV (.st (.pair (.int .u8) (.pair .bool (.pair (.int .u8) (.pair (.int .u16) (.int .u8)))))) w K v0 x0) {r : (Int)} (h : p25 n x0 = some r) :
    Calls Try.prog 25 #[v0] w (Ret1 (.int .u8) w (Kx K w.heap.size []) r) := by
  refine enter (args := [v0]) Try.func25 rfl 12 rfl rfl fun a S => ?_
  have W := Wd.start w
  replace R0 := R0.arg
  unfold p25 at h
  replace S : St 12 a [(0, v0)] := S
  refine wp_seq ?_
  refine wp_region_lit ?_
  refine w_go S rfl (op_box S rfl rfl rfl rfl rfl R0 ?_)
  clear S; intro a w_3 b_1 hb_4 B_2 S
  replace R0 := R0.box hb_4
  replace W := W.box hb_4
  refine wl_pure (l' := [(2, .int .u8 0), (1, .pointer (some (⟨b_1, 0, .none⟩ : Addr))), (0, v0)]) S tys tys_ok 1 (by kernel_rfl) ?_
  clear S; intro a S
  refine wpList_nil ?_
  refine then_n ?_
  replace S := S.sub (l' := [(1, .pointer (some (⟨b_1, 0, .none⟩ : Addr)))]) (by exact ⟨rfl, trivial⟩)
  refine wp_seq ?_
  refine wp_seq ?_
  refine wp_region_lit ?_
  refine wl_pure (l' := [(3, .pointer (some ((⟨b_1, 0, .none⟩ : Addr).add (coff (.pair (.int .u8) (.pair .bool (.pair (.int .u8) (.pair (.int .u16) (.int .u8))))) 1)))), (1, .pointer (some (⟨b_1, 0, .none⟩ : Addr)))]) S tys tys_ok 1 (by kernel_rfl) ?_
  clear S; intro a S
  refine w_go S rfl (op_load (t := .bool) (x := x0.2.1) S rfl ty4 rfl rfl rfl (RepAt.add 1 (RepAt.st B_2.at_)) ?_)
  clear S; intro a v_5 R_6 S
  obtain rfl := RepV.bool R_6
  refine wpList_nil ?_
  refine then_n ?_
  replace S := S.sub (l' := [(4, .bool x0.2.1), (1, .pointer (some (⟨b_1, 0, .none⟩ : Addr)))]) (by exact ⟨rfl, rfl, trivial⟩)
  refine wp_cond_split (S.eval (show ev _ _ = some (.bool x0.2.1) from rfl)) ?_ ?_
  · intro hc
    rw [if_pos hc] at h
    refine wp_seq ?_
    refine wp_region_lit ?_
    refine wl_pure (l' := [(5, .pointer (some ((⟨b_1, 0, .none⟩ : Addr).add (coff (.pair (.int .u8) (.pair .bool (.pair (.int .u8) (.pair (.int .u16) (.int .u8))))) 0)))), (4, .bool x0.2.1), (1, .pointer (some (⟨b_1, 0, .none⟩ : Addr)))]) S tys tys_ok 1 (by kernel_rfl) ?_
    clear S; intro a S
    refine w_go S rfl (op_load (t := (.int .u8)) (x := x0.1) S rfl ty5 rfl rfl rfl (RepAt.add 0 (RepAt.st B_2.at_)) ?_)
    clear S; intro a v_7 R_8 S
    obtain ⟨rfl, GR_8⟩ := RepV.int R_8
    obtain ⟨x_9, ex_9, h⟩ := bindS h
    refine w_go S rfl (op_rem S .u8 rfl rfl rfl rfl rfl ex_9 ?_)
    clear S; intro a S
    refine wl_pure (l' := [(2, .int .u8 (IntKind.wrap .u8 (x_9 + 128))), (8, .int .u8 (IntKind.wrap .u8 (x_9 + 128))), (7, .int .u8 x_9), (6, .int .u8 x0.1), (5, .pointer (some ((⟨b_1, 0, .none⟩ : Addr).add (coff (.pair (.int .u8) (.pair .bool (.pair (.int .u8) (.pair (.int .u16) (.int .u8))))) 0)))), (4, .bool x0.2.1), (1, .pointer (some (⟨b_1, 0, .none⟩ : Addr)))]) S tys tys_ok 2 (by kernel_rfl) ?_
    clear S; intro a S
    refine wpList_nil ?_
    refine then_n ?_
    replace S := S.sub (l' := [(2, .int .u8 (IntKind.wrap .u8 (x_9 + 128)))]) (by exact ⟨rfl, trivial⟩)
    refine wp_ret ?_
    refine then_r ?_
    obtain rfl := Option.some.inj h
    exact b_ret1 S rfl rfl ⟨_, rfl, (RepV.mkInt (inR_wrap _ _)), W.below⟩
  · intro hc
    rw [if_neg (Bool.eq_false_iff.1 hc)] at h
    refine wp_skip ?_
    refine then_n ?_
    replace S := S.sub (l' := [(1, .pointer (some (⟨b_1, 0, .none⟩ : Addr)))]) (by exact ⟨rfl, trivial⟩)
    refine wp_seq ?_
    refine wp_region_lit ?_
    refine wl_pure (l' := [(9, .pointer (some ((⟨b_1, 0, .none⟩ : Addr).add (coff (.pair (.int .u8) (.pair .bool (.pair (.int .u8) (.pair (.int .u16) (.int .u8))))) 0)))), (1, .pointer (some (⟨b_1, 0, .none⟩ : Addr)))]) S tys tys_ok 1 (by kernel_rfl) ?_
    clear S; intro a S
    refine w_go S rfl (op_load (t := (.int .u8)) (x := x0.1) S rfl ty5 rfl rfl rfl (RepAt.add 0 (RepAt.st B_2.at_)) ?_)
    clear S; intro a v_10 R_11 S
    obtain ⟨rfl, GR_11⟩ := RepV.int R_11
    obtain ⟨x_12, ex_12, h⟩ := bindS h
    refine w_go S rfl (op_rem S .u8 rfl rfl rfl rfl rfl ex_12 ?_)
    clear S; intro a S
    refine wl_pure (l' := [(2, .int .u8 x_12), (11, .int .u8 x_12), (10, .int .u8 x0.1), (9, .pointer (some ((⟨b_1, 0, .none⟩ : Addr).add (coff (.pair (.int .u8) (.pair .bool (.pair (.int .u8) (.pair (.int .u16) (.int .u8))))) 0)))), (1, .pointer (some (⟨b_1, 0, .none⟩ : Addr)))]) S tys tys_ok 1 (by kernel_rfl) ?_
    clear S; intro a S
    refine wpList_nil ?_
    refine then_n ?_
    replace S := S.sub (l' := [(2, .int .u8 x_12)]) (by exact ⟨rfl, trivial⟩)
    refine wp_ret ?_
    obtain rfl := Option.some.inj h
    exact b_ret1 S rfl rfl ⟨_, rfl, (RepV.mkInt (inR_rem ex_12)), W.below⟩
theorem cb25 : callB Try.prog 25 = true := by kernel_rfl
def p13 (n : Nat) (x0 : Int × Bool × Int × Int × Int) : Option ((List Int)) :=
  (if (decide (x0.1 < 1)) = false then some (decide (x0.1 > 15)) else some true).bind fun q_7 =>
  (if q_7 = false then some (decide (x0.2.2.2.1 < 1)) else some true).bind fun q_10 =>
  (if q_10 = false then some (decide (x0.2.2.2.1 > 1024)) else some true).bind fun q_13 =>
  if q_13 then (some ([])) else (if (decide (x0.2.2.1 < 1)) = false then some (decide (x0.2.2.1 > 3)) else some true).bind fun q_20 => (if q_20 = false then (if (x0.2.2.1 == 2) = true then some (x0.2.2.2.2 != 0) else some false).bind fun q_26 => some q_26 else some true).bind fun q_23 => (if q_23 = false then (if (x0.2.2.1 == 1) = true then (if (decide (x0.2.2.2.2 < 1)) = false then some (decide (x0.2.2.2.2 > 16)) else some true).bind fun q_31 => some q_31 else some false).bind fun q_30 => some q_30 else some true).bind fun q_27 => (if q_27 = false then (if (x0.2.2.1 == 3) = true then some (decide (x0.2.2.2.2 < 1)) else some false).bind fun q_35 => some q_35 else some true).bind fun q_32 => if q_32 then (some ([])) else (p25 n x0).bind fun t_38 => (catS ([7, 5]) ((⟨[t_38, x0.2.2.1], some 2⟩ : Sl (Int)).xs)).bind fun s_49 => (p38 n x0.2.2.2.1).bind fun t_52 => (catS s_49 t_52).bind fun s_57 => (catS s_57 ((⟨[x0.2.2.2.2], some 1⟩ : Sl (Int)).xs)).bind fun s_62 => some s_62
set_option maxHeartbeats 4000000 in
set_option maxRecDepth 100000 in
/-- plugboard/plugboardlaw13.endpoint -/
theorem c13 (K : Nat → Prop) (n : Nat) (w : World) (x0 : Int × Bool × Int × Int × Int) (v0 : Value) (R0 : RepV (.st (.pair (.int .u8) (.pair .bool (.pair (.int .u8) (.pair (.int .u16) (.int .u8)))))) w K v0 x0) {r : (List Int)} (h : p13 n x0 = some r) :
    Calls Try.prog 13 #[v0] w (Ret1 .str w (Kx K w.heap.size []) r) := by
  refine enter (args := [v0]) Try.func13 rfl 78 rfl rfl fun a S => ?_
  have W := Wd.start w
  replace R0 := R0.arg
  unfold p13 at h
  replace S : St 78 a [(0, v0)] := S
  refine wp_seq ?_
  refine wp_region_lit ?_
  refine w_go S rfl (op_box S rfl rfl rfl rfl rfl R0 ?_)
  clear S; intro a w_3 b_1 hb_4 B_2 S
  replace R0 := R0.box hb_4
  replace W := W.box hb_4
  refine wl_pure (l' := [(2, .string (strOfNums ([]))), (1, .pointer (some (⟨b_1, 0, .none⟩ : Addr))), (0, v0)]) S tys tys_ok 1 (by kernel_rfl) ?_
  clear S; intro a S
  refine wpList_nil ?_
  refine then_n ?_
  replace S := S.sub (l' := [(1, .pointer (some (⟨b_1, 0, .none⟩ : Addr)))]) (by exact ⟨rfl, trivial⟩)
  refine wp_seq ?_
  refine wp_seq ?_
  refine wp_region_lit ?_
  refine wl_pure (l' := [(4, .pointer (some ((⟨b_1, 0, .none⟩ : Addr).add (coff (.pair (.int .u8) (.pair .bool (.pair (.int .u8) (.pair (.int .u16) (.int .u8))))) 0)))), (1, .pointer (some (⟨b_1, 0, .none⟩ : Addr)))]) S tys tys_ok 1 (by kernel_rfl) ?_
  clear S; intro a S
  refine w_go S rfl (op_load (t := (.int .u8)) (x := x0.1) S rfl ty5 rfl rfl rfl (RepAt.add 0 (RepAt.st B_2.at_)) ?_)
  clear S; intro a v_5 R_6 S
  obtain ⟨rfl, GR_6⟩ := RepV.int R_6
  refine wl_pure (l' := [(7, .bool (decide (x0.1 < 1))), (6, .bool (decide (x0.1 < 1))), (5, .int .u8 x0.1), (4, .pointer (some ((⟨b_1, 0, .none⟩ : Addr).add (coff (.pair (.int .u8) (.pair .bool (.pair (.int .u8) (.pair (.int .u16) (.int .u8))))) 0)))), (1, .pointer (some (⟨b_1, 0, .none⟩ : Addr)))]) S tys tys_ok 2 (by kernel_rfl) ?_
  clear S; intro a S
  obtain ⟨q_7, eq_7, h⟩ := bindS h
  refine seg 4 (fun a_ w_ => w_3 = w_ ∧ St 78 a_ [(11, .bool q_7), (1, .pointer (some (⟨b_1, 0, .none⟩ : Addr)))]) ?_ ?_
  · by_cases hc : (decide (x0.1 < 1)) = false
    · rw [if_pos hc] at eq_7; rw [hc] at S
      refine wl_pure (l' := [(8, .pointer (some ((⟨b_1, 0, .none⟩ : Addr).add (coff (.pair (.int .u8) (.pair .bool (.pair (.int .u8) (.pair (.int .u16) (.int .u8))))) 0)))), (7, .bool false), (6, .bool false), (5, .int .u8 x0.1), (4, .pointer (some ((⟨b_1, 0, .none⟩ : Addr).add (coff (.pair (.int .u8) (.pair .bool (.pair (.int .u8) (.pair (.int .u16) (.int .u8))))) 0)))), (1, .pointer (some (⟨b_1, 0, .none⟩ : Addr)))]) S tys tys_ok 1 (by kernel_rfl) ?_
      clear S; intro a S
      refine w_go S rfl (op_load (t := (.int .u8)) (x := x0.1) S rfl ty5 rfl rfl rfl (RepAt.add 0 (RepAt.st B_2.at_)) ?_)
      clear S; intro a v_8 R_9 S
      obtain ⟨rfl, GR_9⟩ := RepV.int R_9
      refine wl_pure (l' := [(11, .bool (decide (x0.1 > 15))), (10, .bool (decide (x0.1 > 15))), (9, .int .u8 x0.1), (8, .pointer (some ((⟨b_1, 0, .none⟩ : Addr).add (coff (.pair (.int .u8) (.pair .bool (.pair (.int .u8) (.pair (.int .u16) (.int .u8))))) 0)))), (7, .bool false), (6, .bool false), (5, .int .u8 x0.1), (4, .pointer (some ((⟨b_1, 0, .none⟩ : Addr).add (coff (.pair (.int .u8) (.pair .bool (.pair (.int .u8) (.pair (.int .u16) (.int .u8))))) 0)))), (1, .pointer (some (⟨b_1, 0, .none⟩ : Addr)))]) S tys tys_ok 2 (by kernel_rfl) ?_
      clear S; intro a S
      obtain rfl := Option.some.inj eq_7
      exact ⟨rfl, S.sub (by exact ⟨rfl, rfl, trivial⟩)⟩
    · rw [if_neg hc] at eq_7; rw [show (decide (x0.1 < 1)) = true from (by simpa using hc)] at S
      refine wl_pure (l' := [(11, .bool true), (10, undef), (9, undef), (8, undef), (7, .bool true), (6, .bool true), (5, .int .u8 x0.1), (4, .pointer (some ((⟨b_1, 0, .none⟩ : Addr).add (coff (.pair (.int .u8) (.pair .bool (.pair (.int .u8) (.pair (.int .u16) (.int .u8))))) 0)))), (1, .pointer (some (⟨b_1, 0, .none⟩ : Addr)))]) S tys tys_ok 4 (by kernel_rfl) ?_
      clear S; intro a S
      obtain rfl := Option.some.inj eq_7
      exact ⟨rfl, S.sub (by exact ⟨rfl, rfl, trivial⟩)⟩
  clear S eq_7; rintro a _ ⟨rfl, S⟩
  refine wl_pure (l' := [(12, .bool q_7), (11, .bool q_7), (1, .pointer (some (⟨b_1, 0, .none⟩ : Addr)))]) S tys tys_ok 1 (by kernel_rfl) ?_
  clear S; intro a S
  obtain ⟨q_10, eq_10, h⟩ := bindS h
  refine seg 4 (fun a_ w_ => w_3 = w_ ∧ St 78 a_ [(16, .bool q_10), (1, .pointer (some (⟨b_1, 0, .none⟩ : Addr)))]) ?_ ?_
  · by_cases hc : q_7 = false
    · rw [if_pos hc] at eq_10; rw [hc] at S
      refine wl_pure (l' := [(13, .pointer (some ((⟨b_1, 0, .none⟩ : Addr).add (coff (.pair (.int .u8) (.pair .bool (.pair (.int .u8) (.pair (.int .u16) (.int .u8))))) 3)))), (12, .bool false), (11, .bool false), (1, .pointer (some (⟨b_1, 0, .none⟩ : Addr)))]) S tys tys_ok 1 (by kernel_rfl) ?_
      clear S; intro a S
      refine w_go S rfl (op_load (t := (.int .u16)) (x := x0.2.2.2.1) S rfl ty33 rfl rfl rfl (RepAt.add 3 (RepAt.st B_2.at_)) ?_)
      clear S; intro a v_11 R_12 S
      obtain ⟨rfl, GR_12⟩ := RepV.int R_12
      refine wl_pure (l' := [(16, .bool (decide (x0.2.2.2.1 < 1))), (15, .bool (decide (x0.2.2.2.1 < 1))), (14, .int .u16 x0.2.2.2.1), (13, .pointer (some ((⟨b_1, 0, .none⟩ : Addr).add (coff (.pair (.int .u8) (.pair .bool (.pair (.int .u8) (.pair (.int .u16) (.int .u8))))) 3)))), (12, .bool false), (11, .bool false), (1, .pointer (some (⟨b_1, 0, .none⟩ : Addr)))]) S tys tys_ok 2 (by kernel_rfl) ?_
      clear S; intro a S
      obtain rfl := Option.some.inj eq_10
      exact ⟨rfl, S.sub (by exact ⟨rfl, rfl, trivial⟩)⟩
    · rw [if_neg hc] at eq_10; rw [show q_7 = true from (by simpa using hc)] at S
      refine wl_pure (l' := [(16, .bool true), (15, undef), (14, undef), (13, undef), (12, .bool true), (11, .bool true), (1, .pointer (some (⟨b_1, 0, .none⟩ : Addr)))]) S tys tys_ok 4 (by kernel_rfl) ?_
      clear S; intro a S
      obtain rfl := Option.some.inj eq_10
      exact ⟨rfl, S.sub (by exact ⟨rfl, rfl, trivial⟩)⟩
  clear S eq_10; rintro a _ ⟨rfl, S⟩
  refine wl_pure (l' := [(17, .bool q_10), (16, .bool q_10), (1, .pointer (some (⟨b_1, 0, .none⟩ : Addr)))]) S tys tys_ok 1 (by kernel_rfl) ?_
  clear S; intro a S
  obtain ⟨q_13, eq_13, h⟩ := bindS h
  refine seg 4 (fun a_ w_ => w_3 = w_ ∧ St 78 a_ [(21, .bool q_13), (1, .pointer (some (⟨b_1, 0, .none⟩ : Addr)))]) ?_ ?_
  · by_cases hc : q_10 = false
    · rw [if_pos hc] at eq_13; rw [hc] at S
      refine wl_pure (l' := [(18, .pointer (some ((⟨b_1, 0, .none⟩ : Addr).add (coff (.pair (.int .u8) (.pair .bool (.pair (.int .u8) (.pair (.int .u16) (.int .u8))))) 3)))), (17, .bool false), (16, .bool false), (1, .pointer (some (⟨b_1, 0, .none⟩ : Addr)))]) S tys tys_ok 1 (by kernel_rfl) ?_
      clear S; intro a S
      refine w_go S rfl (op_load (t := (.int .u16)) (x := x0.2.2.2.1) S rfl ty33 rfl rfl rfl (RepAt.add 3 (RepAt.st B_2.at_)) ?_)
      clear S; intro a v_14 R_15 S
      obtain ⟨rfl, GR_15⟩ := RepV.int R_15
      refine wl_pure (l' := [(21, .bool (decide (x0.2.2.2.1 > 1024))), (20, .bool (decide (x0.2.2.2.1 > 1024))), (19, .int .u16 x0.2.2.2.1), (18, .pointer (some ((⟨b_1, 0, .none⟩ : Addr).add (coff (.pair (.int .u8) (.pair .bool (.pair (.int .u8) (.pair (.int .u16) (.int .u8))))) 3)))), (17, .bool false), (16, .bool false), (1, .pointer (some (⟨b_1, 0, .none⟩ : Addr)))]) S tys tys_ok 2 (by kernel_rfl) ?_
      clear S; intro a S
      obtain rfl := Option.some.inj eq_13
      exact ⟨rfl, S.sub (by exact ⟨rfl, rfl, trivial⟩)⟩
    · rw [if_neg hc] at eq_13; rw [show q_10 = true from (by simpa using hc)] at S
      refine wl_pure (l' := [(21, .bool true), (20, undef), (19, undef), (18, undef), (17, .bool true), (16, .bool true), (1, .pointer (some (⟨b_1, 0, .none⟩ : Addr)))]) S tys tys_ok 4 (by kernel_rfl) ?_
      clear S; intro a S
      obtain rfl := Option.some.inj eq_13
      exact ⟨rfl, S.sub (by exact ⟨rfl, rfl, trivial⟩)⟩
  clear S eq_13; rintro a _ ⟨rfl, S⟩
  refine wpList_nil ?_
  refine then_n ?_
  refine wp_cond_split (S.eval (show ev _ _ = some (.bool q_13) from rfl)) ?_ ?_
  · intro hc
    rw [if_pos hc] at h
    refine wp_seq ?_
    refine wp_region_lit ?_
    refine wl_pure (l' := [(2, .string (strOfNums ([]))), (21, .bool q_13), (1, .pointer (some (⟨b_1, 0, .none⟩ : Addr)))]) S tys tys_ok 1 (by kernel_rfl) ?_
    clear S; intro a S
    refine wpList_nil ?_
    refine then_n ?_
    replace S := S.sub (l' := [(2, .string (strOfNums ([])))]) (by exact ⟨rfl, trivial⟩)
    refine wp_ret ?_
    refine then_r ?_
    obtain rfl := Option.some.inj h
    exact b_ret1 S rfl rfl ⟨_, rfl, (RepV.mkStr (strG ([]) (by decide) (by decide))), W.below⟩
  · intro hc
    rw [if_neg (Bool.eq_false_iff.1 hc)] at h
    refine wp_skip ?_
    refine then_n ?_
    replace S := S.sub (l' := [(1, .pointer (some (⟨b_1, 0, .none⟩ : Addr)))]) (by exact ⟨rfl, trivial⟩)
    refine wp_seq ?_
    refine wp_region_lit ?_
    refine wl_pure (l' := [(22, .pointer (some ((⟨b_1, 0, .none⟩ : Addr).add (coff (.pair (.int .u8) (.pair .bool (.pair (.int .u8) (.pair (.int .u16) (.int .u8))))) 4)))), (1, .pointer (some (⟨b_1, 0, .none⟩ : Addr)))]) S tys tys_ok 1 (by kernel_rfl) ?_
    clear S; intro a S
    refine w_go S rfl (op_load (t := (.int .u8)) (x := x0.2.2.2.2) S rfl ty5 rfl rfl rfl (RepAt.add 4 (RepAt.st B_2.at_)) ?_)
    clear S; intro a v_16 R_17 S
    obtain ⟨rfl, GR_17⟩ := RepV.int R_17
    refine wl_pure (l' := [(3, .int .u8 x0.2.2.2.2), (23, .int .u8 x0.2.2.2.2), (22, .pointer (some ((⟨b_1, 0, .none⟩ : Addr).add (coff (.pair (.int .u8) (.pair .bool (.pair (.int .u8) (.pair (.int .u16) (.int .u8))))) 4)))), (1, .pointer (some (⟨b_1, 0, .none⟩ : Addr)))]) S tys tys_ok 1 (by kernel_rfl) ?_
    clear S; intro a S
    refine wpList_nil ?_
    refine then_n ?_
    replace S := S.sub (l' := [(3, .int .u8 x0.2.2.2.2), (1, .pointer (some (⟨b_1, 0, .none⟩ : Addr)))]) (by exact ⟨rfl, rfl, trivial⟩)
    refine wp_seq ?_
    refine wp_seq ?_
    refine wp_region_lit ?_
    refine wl_pure (l' := [(24, .pointer (some ((⟨b_1, 0, .none⟩ : Addr).add (coff (.pair (.int .u8) (.pair .bool (.pair (.int .u8) (.pair (.int .u16) (.int .u8))))) 2)))), (3, .int .u8 x0.2.2.2.2), (1, .pointer (some (⟨b_1, 0, .none⟩ : Addr)))]) S tys tys_ok 1 (by kernel_rfl) ?_
    clear S; intro a S
    refine w_go S rfl (op_load (t := (.int .u8)) (x := x0.2.2.1) S rfl ty32 rfl rfl rfl (RepAt.add 2 (RepAt.st B_2.at_)) ?_)
    clear S; intro a v_18 R_19 S
    obtain ⟨rfl, GR_19⟩ := RepV.int R_19
    refine wl_pure (l' := [(27, .bool (decide (x0.2.2.1 < 1))), (26, .bool (decide (x0.2.2.1 < 1))), (25, .int .u8 x0.2.2.1), (24, .pointer (some ((⟨b_1, 0, .none⟩ : Addr).add (coff (.pair (.int .u8) (.pair .bool (.pair (.int .u8) (.pair (.int .u16) (.int .u8))))) 2)))), (3, .int .u8 x0.2.2.2.2), (1, .pointer (some (⟨b_1, 0, .none⟩ : Addr)))]) S tys tys_ok 2 (by kernel_rfl) ?_
    clear S; intro a S
    obtain ⟨q_20, eq_20, h⟩ := bindS h
    refine seg 4 (fun a_ w_ => w_3 = w_ ∧ St 78 a_ [(31, .bool q_20), (3, .int .u8 x0.2.2.2.2), (1, .pointer (some (⟨b_1, 0, .none⟩ : Addr)))]) ?_ ?_
    · by_cases hc : (decide (x0.2.2.1 < 1)) = false
      · rw [if_pos hc] at eq_20; rw [hc] at S
        refine wl_pure (l' := [(28, .pointer (some ((⟨b_1, 0, .none⟩ : Addr).add (coff (.pair (.int .u8) (.pair .bool (.pair (.int .u8) (.pair (.int .u16) (.int .u8))))) 2)))), (27, .bool false), (26, .bool false), (25, .int .u8 x0.2.2.1), (24, .pointer (some ((⟨b_1, 0, .none⟩ : Addr).add (coff (.pair (.int .u8) (.pair .bool (.pair (.int .u8) (.pair (.int .u16) (.int .u8))))) 2)))), (3, .int .u8 x0.2.2.2.2), (1, .pointer (some (⟨b_1, 0, .none⟩ : Addr)))]) S tys tys_ok 1 (by kernel_rfl) ?_
        clear S; intro a S
        refine w_go S rfl (op_load (t := (.int .u8)) (x := x0.2.2.1) S rfl ty32 rfl rfl rfl (RepAt.add 2 (RepAt.st B_2.at_)) ?_)
        clear S; intro a v_21 R_22 S
        obtain ⟨rfl, GR_22⟩ := RepV.int R_22
        refine wl_pure (l' := [(31, .bool (decide (x0.2.2.1 > 3))), (30, .bool (decide (x0.2.2.1 > 3))), (29, .int .u8 x0.2.2.1), (28, .pointer (some ((⟨b_1, 0, .none⟩ : Addr).add (coff (.pair (.int .u8) (.pair .bool (.pair (.int .u8) (.pair (.int .u16) (.int .u8))))) 2)))), (27, .bool false), (26, .bool false), (25, .int .u8 x0.2.2.1), (24, .pointer (some ((⟨b_1, 0, .none⟩ : Addr).add (coff (.pair (.int .u8) (.pair .bool (.pair (.int .u8) (.pair (.int .u16) (.int .u8))))) 2)))), (3, .int .u8 x0.2.2.2.2), (1, .pointer (some (⟨b_1, 0, .none⟩ : Addr)))]) S tys tys_ok 2 (by kernel_rfl) ?_
        clear S; intro a S
        obtain rfl := Option.some.inj eq_20
        exact ⟨rfl, S.sub (by exact ⟨rfl, rfl, rfl, trivial⟩)⟩
      · rw [if_neg hc] at eq_20; rw [show (decide (x0.2.2.1 < 1)) = true from (by simpa using hc)] at S
        refine wl_pure (l' := [(31, .bool true), (30, undef), (29, undef), (28, undef), (27, .bool true), (26, .bool true), (25, .int .u8 x0.2.2.1), (24, .pointer (some ((⟨b_1, 0, .none⟩ : Addr).add (coff (.pair (.int .u8) (.pair .bool (.pair (.int .u8) (.pair (.int .u16) (.int .u8))))) 2)))), (3, .int .u8 x0.2.2.2.2), (1, .pointer (some (⟨b_1, 0, .none⟩ : Addr)))]) S tys tys_ok 4 (by kernel_rfl) ?_
        clear S; intro a S
        obtain rfl := Option.some.inj eq_20
        exact ⟨rfl, S.sub (by exact ⟨rfl, rfl, rfl, trivial⟩)⟩
    clear S eq_20; rintro a _ ⟨rfl, S⟩
    refine wl_pure (l' := [(32, .bool q_20), (31, .bool q_20), (3, .int .u8 x0.2.2.2.2), (1, .pointer (some (⟨b_1, 0, .none⟩ : Addr)))]) S tys tys_ok 1 (by kernel_rfl) ?_
    clear S; intro a S
    obtain ⟨q_23, eq_23, h⟩ := bindS h
    refine seg 8 (fun a_ w_ => w_3 = w_ ∧ St 78 a_ [(40, .bool q_23), (3, .int .u8 x0.2.2.2.2), (1, .pointer (some (⟨b_1, 0, .none⟩ : Addr)))]) ?_ ?_
    · by_cases hc : q_20 = false
      · rw [if_pos hc] at eq_23; rw [hc] at S
        refine wl_pure (l' := [(33, .pointer (some ((⟨b_1, 0, .none⟩ : Addr).add (coff (.pair (.int .u8) (.pair .bool (.pair (.int .u8) (.pair (.int .u16) (.int .u8))))) 2)))), (32, .bool false), (31, .bool false), (3, .int .u8 x0.2.2.2.2), (1, .pointer (some (⟨b_1, 0, .none⟩ : Addr)))]) S tys tys_ok 1 (by kernel_rfl) ?_
        clear S; intro a S
        refine w_go S rfl (op_load (t := (.int .u8)) (x := x0.2.2.1) S rfl ty32 rfl rfl rfl (RepAt.add 2 (RepAt.st B_2.at_)) ?_)
        clear S; intro a v_24 R_25 S
        obtain ⟨rfl, GR_25⟩ := RepV.int R_25
        refine wl_pure (l' := [(36, .bool (x0.2.2.1 == 2)), (35, .bool (x0.2.2.1 == 2)), (34, .int .u8 x0.2.2.1), (33, .pointer (some ((⟨b_1, 0, .none⟩ : Addr).add (coff (.pair (.int .u8) (.pair .bool (.pair (.int .u8) (.pair (.int .u16) (.int .u8))))) 2)))), (32, .bool false), (31, .bool false), (3, .int .u8 x0.2.2.2.2), (1, .pointer (some (⟨b_1, 0, .none⟩ : Addr)))]) S tys tys_ok 2 (by kernel_rfl) ?_
        clear S; intro a S
        obtain ⟨q_26, eq_26, eq_23⟩ := bindS eq_23
        refine seg 3 (fun a_ w_ => w_3 = w_ ∧ St 78 a_ [(39, .bool q_26), (32, .bool false), (3, .int .u8 x0.2.2.2.2), (1, .pointer (some (⟨b_1, 0, .none⟩ : Addr)))]) ?_ ?_
        · by_cases hc : (x0.2.2.1 == 2) = true
          · rw [if_pos hc] at eq_26; rw [hc] at S
            refine wl_pure (l' := [(39, .bool (x0.2.2.2.2 != 0)), (38, .bool (x0.2.2.2.2 != 0)), (37, .int .u8 x0.2.2.2.2), (36, .bool true), (35, .bool true), (34, .int .u8 x0.2.2.1), (33, .pointer (some ((⟨b_1, 0, .none⟩ : Addr).add (coff (.pair (.int .u8) (.pair .bool (.pair (.int .u8) (.pair (.int .u16) (.int .u8))))) 2)))), (32, .bool false), (31, .bool false), (3, .int .u8 x0.2.2.2.2), (1, .pointer (some (⟨b_1, 0, .none⟩ : Addr)))]) S tys tys_ok 3 (by kernel_rfl) ?_
            clear S; intro a S
            obtain rfl := Option.some.inj eq_26
            exact ⟨rfl, S.sub (by exact ⟨rfl, rfl, rfl, rfl, trivial⟩)⟩
          · rw [if_neg hc] at eq_26; rw [show (x0.2.2.1 == 2) = false from Bool.eq_false_iff.2 hc] at S
            refine wl_pure (l' := [(39, .bool false), (38, undef), (37, undef), (36, .bool false), (35, .bool false), (34, .int .u8 x0.2.2.1), (33, .pointer (some ((⟨b_1, 0, .none⟩ : Addr).add (coff (.pair (.int .u8) (.pair .bool (.pair (.int .u8) (.pair (.int .u16) (.int .u8))))) 2)))), (32, .bool false), (31, .bool false), (3, .int .u8 x0.2.2.2.2), (1, .pointer (some (⟨b_1, 0, .none⟩ : Addr)))]) S tys tys_ok 3 (by kernel_rfl) ?_
            clear S; intro a S
            obtain rfl := Option.some.inj eq_26
            exact ⟨rfl, S.sub (by exact ⟨rfl, rfl, rfl, rfl, trivial⟩)⟩
        clear S eq_26; rintro a _ ⟨rfl, S⟩
        refine wl_pure (l' := [(40, .bool q_26), (39, .bool q_26), (32, .bool false), (3, .int .u8 x0.2.2.2.2), (1, .pointer (some (⟨b_1, 0, .none⟩ : Addr)))]) S tys tys_ok 1 (by kernel_rfl) ?_
        clear S; intro a S
        obtain rfl := Option.some.inj eq_23
        exact ⟨rfl, S.sub (by exact ⟨rfl, rfl, rfl, trivial⟩)⟩
      · rw [if_neg hc] at eq_23; rw [show q_20 = true from (by simpa using hc)] at S
        refine wl_pure (l' := [(40, .bool true), (39, undef), (38, undef), (37, undef), (36, undef), (35, undef), (34, undef), (33, undef), (32, .bool true), (31, .bool true), (3, .int .u8 x0.2.2.2.2), (1, .pointer (some (⟨b_1, 0, .none⟩ : Addr)))]) S tys tys_ok 8 (by kernel_rfl) ?_
        clear S; intro a S
        obtain rfl := Option.some.inj eq_23
        exact ⟨rfl, S.sub (by exact ⟨rfl, rfl, rfl, trivial⟩)⟩
    clear S eq_23; rintro a _ ⟨rfl, S⟩
    refine wl_pure (l' := [(41, .bool q_23), (40, .bool q_23), (3, .int .u8 x0.2.2.2.2), (1, .pointer (some (⟨b_1, 0, .none⟩ : Addr)))]) S tys tys_ok 1 (by kernel_rfl) ?_
    clear S; intro a S
    obtain ⟨q_27, eq_27, h⟩ := bindS h
    refine seg 12 (fun a_ w_ => w_3 = w_ ∧ St 78 a_ [(53, .bool q_27), (3, .int .u8 x0.2.2.2.2), (1, .pointer (some (⟨b_1, 0, .none⟩ : Addr)))]) ?_ ?_
    · by_cases hc : q_23 = false
      · rw [if_pos hc] at eq_27; rw [hc] at S
        refine wl_pure (l' := [(42, .pointer (some ((⟨b_1, 0, .none⟩ : Addr).add (coff (.pair (.int .u8) (.pair .bool (.pair (.int .u8) (.pair (.int .u16) (.int .u8))))) 2)))), (41, .bool false), (40, .bool false), (3, .int .u8 x0.2.2.2.2), (1, .pointer (some (⟨b_1, 0, .none⟩ : Addr)))]) S tys tys_ok 1 (by kernel_rfl) ?_
        clear S; intro a S
        refine w_go S rfl (op_load (t := (.int .u8)) (x := x0.2.2.1) S rfl ty32 rfl rfl rfl (RepAt.add 2 (RepAt.st B_2.at_)) ?_)
        clear S; intro a v_28 R_29 S
        obtain ⟨rfl, GR_29⟩ := RepV.int R_29
        refine wl_pure (l' := [(45, .bool (x0.2.2.1 == 1)), (44, .bool (x0.2.2.1 == 1)), (43, .int .u8 x0.2.2.1), (42, .pointer (some ((⟨b_1, 0, .none⟩ : Addr).add (coff (.pair (.int .u8) (.pair .bool (.pair (.int .u8) (.pair (.int .u16) (.int .u8))))) 2)))), (41, .bool false), (40, .bool false), (3, .int .u8 x0.2.2.2.2), (1, .pointer (some (⟨b_1, 0, .none⟩ : Addr)))]) S tys tys_ok 2 (by kernel_rfl) ?_
        clear S; intro a S
        obtain ⟨q_30, eq_30, eq_27⟩ := bindS eq_27
        refine seg 7 (fun a_ w_ => w_3 = w_ ∧ St 78 a_ [(52, .bool q_30), (41, .bool false), (3, .int .u8 x0.2.2.2.2), (1, .pointer (some (⟨b_1, 0, .none⟩ : Addr)))]) ?_ ?_
        · by_cases hc : (x0.2.2.1 == 1) = true
          · rw [if_pos hc] at eq_30; rw [hc] at S
            refine wl_pure (l' := [(48, .bool (decide (x0.2.2.2.2 < 1))), (47, .bool (decide (x0.2.2.2.2 < 1))), (46, .int .u8 x0.2.2.2.2), (45, .bool true), (44, .bool true), (43, .int .u8 x0.2.2.1), (42, .pointer (some ((⟨b_1, 0, .none⟩ : Addr).add (coff (.pair (.int .u8) (.pair .bool (.pair (.int .u8) (.pair (.int .u16) (.int .u8))))) 2)))), (41, .bool false), (40, .bool false), (3, .int .u8 x0.2.2.2.2), (1, .pointer (some (⟨b_1, 0, .none⟩ : Addr)))]) S tys tys_ok 3 (by kernel_rfl) ?_
            clear S; intro a S
            obtain ⟨q_31, eq_31, eq_30⟩ := bindS eq_30
            refine seg 3 (fun a_ w_ => w_3 = w_ ∧ St 78 a_ [(51, .bool q_31), (45, .bool true), (41, .bool false), (3, .int .u8 x0.2.2.2.2), (1, .pointer (some (⟨b_1, 0, .none⟩ : Addr)))]) ?_ ?_
            · by_cases hc : (decide (x0.2.2.2.2 < 1)) = false
              · rw [if_pos hc] at eq_31; rw [hc] at S
                refine wl_pure (l' := [(51, .bool (decide (x0.2.2.2.2 > 16))), (50, .bool (decide (x0.2.2.2.2 > 16))), (49, .int .u8 x0.2.2.2.2), (48, .bool false), (47, .bool false), (46, .int .u8 x0.2.2.2.2), (45, .bool true), (44, .bool true), (43, .int .u8 x0.2.2.1), (42, .pointer (some ((⟨b_1, 0, .none⟩ : Addr).add (coff (.pair (.int .u8) (.pair .bool (.pair (.int .u8) (.pair (.int .u16) (.int .u8))))) 2)))), (41, .bool false), (40, .bool false), (3, .int .u8 x0.2.2.2.2), (1, .pointer (some (⟨b_1, 0, .none⟩ : Addr)))]) S tys tys_ok 3 (by kernel_rfl) ?_
                clear S; intro a S
                obtain rfl := Option.some.inj eq_31
                exact ⟨rfl, S.sub (by exact ⟨rfl, rfl, rfl, rfl, rfl, trivial⟩)⟩
              · rw [if_neg hc] at eq_31; rw [show (decide (x0.2.2.2.2 < 1)) = true from (by simpa using hc)] at S
                refine wl_pure (l' := [(51, .bool true), (50, undef), (49, undef), (48, .bool true), (47, .bool true), (46, .int .u8 x0.2.2.2.2), (45, .bool true), (44, .bool true), (43, .int .u8 x0.2.2.1), (42, .pointer (some ((⟨b_1, 0, .none⟩ : Addr).add (coff (.pair (.int .u8) (.pair .bool (.pair (.int .u8) (.pair (.int .u16) (.int .u8))))) 2)))), (41, .bool false), (40, .bool false), (3, .int .u8 x0.2.2.2.2), (1, .pointer (some (⟨b_1, 0, .none⟩ : Addr)))]) S tys tys_ok 3 (by kernel_rfl) ?_
                clear S; intro a S
                obtain rfl := Option.some.inj eq_31
                exact ⟨rfl, S.sub (by exact ⟨rfl, rfl, rfl, rfl, rfl, trivial⟩)⟩
            clear S eq_31; rintro a _ ⟨rfl, S⟩
            refine wl_pure (l' := [(52, .bool q_31), (51, .bool q_31), (45, .bool true), (41, .bool false), (3, .int .u8 x0.2.2.2.2), (1, .pointer (some (⟨b_1, 0, .none⟩ : Addr)))]) S tys tys_ok 1 (by kernel_rfl) ?_
            clear S; intro a S
            obtain rfl := Option.some.inj eq_30
            exact ⟨rfl, S.sub (by exact ⟨rfl, rfl, rfl, rfl, trivial⟩)⟩
          · rw [if_neg hc] at eq_30; rw [show (x0.2.2.1 == 1) = false from Bool.eq_false_iff.2 hc] at S
            refine wl_pure (l' := [(52, .bool false), (51, undef), (50, undef), (49, undef), (48, undef), (47, undef), (46, undef), (45, .bool false), (44, .bool false), (43, .int .u8 x0.2.2.1), (42, .pointer (some ((⟨b_1, 0, .none⟩ : Addr).add (coff (.pair (.int .u8) (.pair .bool (.pair (.int .u8) (.pair (.int .u16) (.int .u8))))) 2)))), (41, .bool false), (40, .bool false), (3, .int .u8 x0.2.2.2.2), (1, .pointer (some (⟨b_1, 0, .none⟩ : Addr)))]) S tys tys_ok 7 (by kernel_rfl) ?_
            clear S; intro a S
            obtain rfl := Option.some.inj eq_30
            exact ⟨rfl, S.sub (by exact ⟨rfl, rfl, rfl, rfl, trivial⟩)⟩
        clear S eq_30; rintro a _ ⟨rfl, S⟩
        refine wl_pure (l' := [(53, .bool q_30), (52, .bool q_30), (41, .bool false), (3, .int .u8 x0.2.2.2.2), (1, .pointer (some (⟨b_1, 0, .none⟩ : Addr)))]) S tys tys_ok 1 (by kernel_rfl) ?_
        clear S; intro a S
        obtain rfl := Option.some.inj eq_27
        exact ⟨rfl, S.sub (by exact ⟨rfl, rfl, rfl, trivial⟩)⟩
      · rw [if_neg hc] at eq_27; rw [show q_23 = true from (by simpa using hc)] at S
        refine wl_pure (l' := [(53, .bool true), (52, undef), (51, undef), (50, undef), (49, undef), (48, undef), (47, undef), (46, undef), (45, undef), (44, undef), (43, undef), (42, undef), (41, .bool true), (40, .bool true), (3, .int .u8 x0.2.2.2.2), (1, .pointer (some (⟨b_1, 0, .none⟩ : Addr)))]) S tys tys_ok 12 (by kernel_rfl) ?_
        clear S; intro a S
        obtain rfl := Option.some.inj eq_27
        exact ⟨rfl, S.sub (by exact ⟨rfl, rfl, rfl, trivial⟩)⟩
    clear S eq_27; rintro a _ ⟨rfl, S⟩
    refine wl_pure (l' := [(54, .bool q_27), (53, .bool q_27), (3, .int .u8 x0.2.2.2.2), (1, .pointer (some (⟨b_1, 0, .none⟩ : Addr)))]) S tys tys_ok 1 (by kernel_rfl) ?_
    clear S; intro a S
    obtain ⟨q_32, eq_32, h⟩ := bindS h
    refine seg 8 (fun a_ w_ => w_3 = w_ ∧ St 78 a_ [(62, .bool q_32), (3, .int .u8 x0.2.2.2.2), (1, .pointer (some (⟨b_1, 0, .none⟩ : Addr)))]) ?_ ?_
    · by_cases hc : q_27 = false
      · rw [if_pos hc] at eq_32; rw [hc] at S
        refine wl_pure (l' := [(55, .pointer (some ((⟨b_1, 0, .none⟩ : Addr).add (coff (.pair (.int .u8) (.pair .bool (.pair (.int .u8) (.pair (.int .u16) (.int .u8))))) 2)))), (54, .bool false), (53, .bool false), (3, .int .u8 x0.2.2.2.2), (1, .pointer (some (⟨b_1, 0, .none⟩ : Addr)))]) S tys tys_ok 1 (by kernel_rfl) ?_
        clear S; intro a S
        refine w_go S rfl (op_load (t := (.int .u8)) (x := x0.2.2.1) S rfl ty32 rfl rfl rfl (RepAt.add 2 (RepAt.st B_2.at_)) ?_)
        clear S; intro a v_33 R_34 S
        obtain ⟨rfl, GR_34⟩ := RepV.int R_34
        refine wl_pure (l' := [(58, .bool (x0.2.2.1 == 3)), (57, .bool (x0.2.2.1 == 3)), (56, .int .u8 x0.2.2.1), (55, .pointer (some ((⟨b_1, 0, .none⟩ : Addr).add (coff (.pair (.int .u8) (.pair .bool (.pair (.int .u8) (.pair (.int .u16) (.int .u8))))) 2)))), (54, .bool false), (53, .bool false), (3, .int .u8 x0.2.2.2.2), (1, .pointer (some (⟨b_1, 0, .none⟩ : Addr)))]) S tys tys_ok 2 (by kernel_rfl) ?_
        clear S; intro a S
        obtain ⟨q_35, eq_35, eq_32⟩ := bindS eq_32
        refine seg 3 (fun a_ w_ => w_3 = w_ ∧ St 78 a_ [(61, .bool q_35), (54, .bool false), (3, .int .u8 x0.2.2.2.2), (1, .pointer (some (⟨b_1, 0, .none⟩ : Addr)))]) ?_ ?_
        · by_cases hc : (x0.2.2.1 == 3) = true
          · rw [if_pos hc] at eq_35; rw [hc] at S
            refine wl_pure (l' := [(61, .bool (decide (x0.2.2.2.2 < 1))), (60, .bool (decide (x0.2.2.2.2 < 1))), (59, .int .u8 x0.2.2.2.2), (58, .bool true), (57, .bool true), (56, .int .u8 x0.2.2.1), (55, .pointer (some ((⟨b_1, 0, .none⟩ : Addr).add (coff (.pair (.int .u8) (.pair .bool (.pair (.int .u8) (.pair (.int .u16) (.int .u8))))) 2)))), (54, .bool false), (53, .bool false), (3, .int .u8 x0.2.2.2.2), (1, .pointer (some (⟨b_1, 0, .none⟩ : Addr)))]) S tys tys_ok 3 (by kernel_rfl) ?_
            clear S; intro a S
            obtain rfl := Option.some.inj eq_35
            exact ⟨rfl, S.sub (by exact ⟨rfl, rfl, rfl, rfl, trivial⟩)⟩
          · rw [if_neg hc] at eq_35; rw [show (x0.2.2.1 == 3) = false from Bool.eq_false_iff.2 hc] at S
            refine wl_pure (l' := [(61, .bool false), (60, undef), (59, undef), (58, .bool false), (57, .bool false), (56, .int .u8 x0.2.2.1), (55, .pointer (some ((⟨b_1, 0, .none⟩ : Addr).add (coff (.pair (.int .u8) (.pair .bool (.pair (.int .u8) (.pair (.int .u16) (.int .u8))))) 2)))), (54, .bool false), (53, .bool false), (3, .int .u8 x0.2.2.2.2), (1, .pointer (some (⟨b_1, 0, .none⟩ : Addr)))]) S tys tys_ok 3 (by kernel_rfl) ?_
            clear S; intro a S
            obtain rfl := Option.some.inj eq_35
            exact ⟨rfl, S.sub (by exact ⟨rfl, rfl, rfl, rfl, trivial⟩)⟩
        clear S eq_35; rintro a _ ⟨rfl, S⟩
        refine wl_pure (l' := [(62, .bool q_35), (61, .bool q_35), (54, .bool false), (3, .int .u8 x0.2.2.2.2), (1, .pointer (some (⟨b_1, 0, .none⟩ : Addr)))]) S tys tys_ok 1 (by kernel_rfl) ?_
        clear S; intro a S
        obtain rfl := Option.some.inj eq_32
        exact ⟨rfl, S.sub (by exact ⟨rfl, rfl, rfl, trivial⟩)⟩
      · rw [if_neg hc] at eq_32; rw [show q_27 = true from (by simpa using hc)] at S
        refine wl_pure (l' := [(62, .bool true), (61, undef), (60, undef), (59, undef), (58, undef), (57, undef), (56, undef), (55, undef), (54, .bool true), (53, .bool true), (3, .int .u8 x0.2.2.2.2), (1, .pointer (some (⟨b_1, 0, .none⟩ : Addr)))]) S tys tys_ok 8 (by kernel_rfl) ?_
        clear S; intro a S
        obtain rfl := Option.some.inj eq_32
        exact ⟨rfl, S.sub (by exact ⟨rfl, rfl, rfl, trivial⟩)⟩
    clear S eq_32; rintro a _ ⟨rfl, S⟩
    refine wpList_nil ?_
    refine then_n ?_
    refine wp_cond_split (S.eval (show ev _ _ = some (.bool q_32) from rfl)) ?_ ?_
    · intro hc
      rw [if_pos hc] at h
      refine wp_seq ?_
      refine wp_region_lit ?_
      refine wl_pure (l' := [(2, .string (strOfNums ([]))), (62, .bool q_32), (3, .int .u8 x0.2.2.2.2), (1, .pointer (some (⟨b_1, 0, .none⟩ : Addr)))]) S tys tys_ok 1 (by kernel_rfl) ?_
      clear S; intro a S
      refine wpList_nil ?_
      refine then_n ?_
      replace S := S.sub (l' := [(2, .string (strOfNums ([])))]) (by exact ⟨rfl, trivial⟩)
      refine wp_ret ?_
      refine then_r ?_
      obtain rfl := Option.some.inj h
      exact b_ret1 S rfl rfl ⟨_, rfl, (RepV.mkStr (strG ([]) (by decide) (by decide))), W.below⟩
    · intro hc
      rw [if_neg (Bool.eq_false_iff.1 hc)] at h
      refine wp_skip ?_
      refine then_n ?_
      replace S := S.sub (l' := [(3, .int .u8 x0.2.2.2.2), (1, .pointer (some (⟨b_1, 0, .none⟩ : Addr)))]) (by exact ⟨rfl, rfl, trivial⟩)
      refine wp_seq ?_
      obtain ⟨t_38, et_38, h⟩ := bindS h
      obtain ⟨s_49, es_49, h⟩ := bindS h
      obtain ⟨t_52, et_52, h⟩ := bindS h
      obtain ⟨s_57, es_57, h⟩ := bindS h
      obtain ⟨s_62, es_62, h⟩ := bindS h
      have hR : Rel (Kx K w.heap.size [some b_1]) Bl := Bl.rel _
      refine wp_region_all hR [isRep (.st (.pair (.int .u8) (.pair .bool (.pair (.int .u8) (.pair (.int .u16) (.int .u8)))))) (Kx K w.heap.size [some b_1]) x0, isI .u8 t_38, eqv (.pointer (some ((⟨b_1, 0, .none⟩ : Addr).add (coff (.pair (.int .u8) (.pair .bool (.pair (.int .u8) (.pair (.int .u16) (.int .u8))))) 2)))), isI .u8 x0.2.2.1, isRep (.sl (.int .u8)) (Kx K w.heap.size [some b_1]) (⟨[t_38, x0.2.2.1], some 2⟩ : Sl (Int)), isS ((⟨[t_38, x0.2.2.1], some 2⟩ : Sl (Int)).xs), isS s_49, eqv (.pointer (some ((⟨b_1, 0, .none⟩ : Addr).add (coff (.pair (.int .u8) (.pair .bool (.pair (.int .u8) (.pair (.int .u16) (.int .u8))))) 3)))), isI .u16 x0.2.2.2.1, isS t_52, isS s_57, isI .u8 x0.2.2.2.2, isRep (.sl (.int .u8)) (Kx K w.heap.size [some b_1]) (⟨[x0.2.2.2.2], some 1⟩ : Sl (Int)), isS ((⟨[x0.2.2.2.2], some 1⟩ : Sl (Int)).xs), isS s_62, isS s_62] [[], [(0, 63)], [], [(2, 65)], [(1, 64), (3, 66)], [(4, 67)], [(5, 68)], [], [(7, 70)], [(8, 71)], [(6, 69), (9, 72)], [], [(11, 74)], [(12, 75)], [(10, 73), (13, 76)], [(14, 77)]] (by kernel_rfl) (by rw [S.size]; kernel_rfl) (by kernel_rfl) (by kernel_rfl) rfl ⟨(stab_rep hR), stab_I, (stab_eqv _), stab_I, (stab_rep hR), stab_S, stab_S, (stab_eqv _), stab_I, stab_S, stab_S, stab_I, (stab_rep hR), stab_S, stab_S, stab_S, trivial⟩ ?_ ?_
      ·
        refine RunAll.cons (isRep (.st (.pair (.int .u8) (.pair .bool (.pair (.int .u8) (.pair (.int .u16) (.int .u8)))))) (Kx K w.heap.size [some b_1]) x0) [] rfl rfl ?_ ?_
        · intro W_ hW
          have S1 := S
          refine fill_nil S1 ?_; clear S1; intro a_ S1
          replace B_2 := B_2.step hW
          have S0 := S.defers; replace S := S1; clear S1
          refine w_go S rfl (op_load (t := (.st (.pair (.int .u8) (.pair .bool (.pair (.int .u8) (.pair (.int .u16) (.int .u8))))))) (x := x0) S rfl ty35 rfl rfl rfl B_2.at_ ?_)
          clear S; intro a v_63 R_64 S
          refine wpList_nil ?_
          exact RPost.mk_ S rfl S0 R_64 (Below.refl _ _)
        refine RunAll.cons (isI .u8 t_38) [(isRep (.st (.pair (.int .u8) (.pair .bool (.pair (.int .u8) (.pair (.int .u16) (.int .u8)))))) (Kx K w.heap.size [some b_1]) x0, 63)] rfl rfl ?_ ?_
        · intro W_ hW
          have S1 := S
          intro v_66 hF_65; replace hF_65 : RepV _ _ _ _ _ := hF_65
          replace S1 := S1.put (by decide : 63 < 78) (v_66)
          refine fill_nil S1 ?_; clear S1; intro a_ S1
          replace W := W.step hW
          have S0 := S.defers; replace S := S1; clear S1
          refine w_go S rfl (op_call (vs := [v_66]) S rfl cb25 rfl rfl rfl (c25 (Kx K w.heap.size [some b_1]) n W_ x0 _ hF_65 et_38) ?_)
          rintro _ w_70 ⟨v_67, rfl, R_68, hb_69⟩; refine ⟨_, rfl, ?_⟩
          replace R_68 := RepV.back R_68 W
          clear S; intro a S
          obtain ⟨rfl, GR_68⟩ := RepV.int R_68
          refine wpList_nil ?_
          exact RPost.mk_ S rfl S0 ⟨rfl, GR_68⟩ (hb_69)
        refine RunAll.cons (eqv (.pointer (some ((⟨b_1, 0, .none⟩ : Addr).add (coff (.pair (.int .u8) (.pair .bool (.pair (.int .u8) (.pair (.int .u16) (.int .u8))))) 2))))) [] rfl rfl ?_ ?_
        · intro W_ hW
          have S1 := S
          refine fill_nil S1 ?_; clear S1; intro a_ S1
          replace B_2 := B_2.step hW
          have S0 := S.defers; replace S := S1; clear S1
          refine wl_pure (l' := [(65, .pointer (some ((⟨b_1, 0, .none⟩ : Addr).add (coff (.pair (.int .u8) (.pair .bool (.pair (.int .u8) (.pair (.int .u16) (.int .u8))))) 2)))), (3, .int .u8 x0.2.2.2.2), (1, .pointer (some (⟨b_1, 0, .none⟩ : Addr)))]) S tys tys_ok 1 (by kernel_rfl) ?_; clear S; intro a S
          refine wpList_nil ?_
          exact RPost.mk_ S rfl S0 rfl (Below.refl _ _)
        refine RunAll.cons (isI .u8 x0.2.2.1) [(eqv (.pointer (some ((⟨b_1, 0, .none⟩ : Addr).add (coff (.pair (.int .u8) (.pair .bool (.pair (.int .u8) (.pair (.int .u16) (.int .u8))))) 2)))), 65)] rfl rfl ?_ ?_
        · intro W_ hW
          have S1 := S
          intro v_72 hF_71; obtain rfl : v_72 = .pointer (some ((⟨b_1, 0, .none⟩ : Addr).add (coff (.pair (.int .u8) (.pair .bool (.pair (.int .u8) (.pair (.int .u16) (.int .u8))))) 2))) := hF_71
          replace S1 := S1.put (by decide : 65 < 78) (.pointer (some ((⟨b_1, 0, .none⟩ : Addr).add (coff (.pair (.int .u8) (.pair .bool (.pair (.int .u8) (.pair (.int .u16) (.int .u8))))) 2))))
          refine fill_nil S1 ?_; clear S1; intro a_ S1
          replace B_2 := B_2.step hW
          have S0 := S.defers; replace S := S1; clear S1
          refine w_go S rfl (op_load (t := (.int .u8)) (x := x0.2.2.1) S rfl ty32 rfl rfl rfl (RepAt.add 2 (RepAt.st B_2.at_)) ?_)
          clear S; intro a v_73 R_74 S
          obtain ⟨rfl, GR_74⟩ := RepV.int R_74
          refine wpList_nil ?_
          exact RPost.mk_ S rfl S0 ⟨rfl, GR_74⟩ (Below.refl _ _)
        refine RunAll.cons (isRep (.sl (.int .u8)) (Kx K w.heap.size [some b_1]) (⟨[t_38, x0.2.2.1], some 2⟩ : Sl (Int))) [(isI .u8 t_38, 64), (isI .u8 x0.2.2.1, 66)] rfl rfl ?_ ?_
        · intro W_ hW
          have S1 := S
          rintro _ ⟨rfl, hF_75⟩
          replace S1 := S1.put (by decide : 64 < 78) (.int .u8 t_38)
          rintro _ ⟨rfl, hF_77⟩
          replace S1 := S1.put (by decide : 66 < 78) (.int .u8 x0.2.2.1)
          refine fill_nil S1 ?_; clear S1; intro a_ S1
          replace W := W.step hW
          have S0 := S.defers; replace S := S1; clear S1
          refine w_go S rfl (op_buildSlice (K := K) (e := (.int .u8)) (vs := [.int .u8 t_38, .int .u8 x0.2.2.1]) (xs := [t_38, x0.2.2.1]) S W rfl ty23 rfl rfl (by kernel_rfl) rfl rfl rfl rfl rfl ⟨(RepV.mkInt hF_75), (RepV.mkInt hF_77), trivial⟩ ?_)
          clear S; intro a w_82 v_79 hb_81 R_80 S
          refine wpList_nil ?_
          exact RPost.mk_ S rfl S0 R_80 (hb_81)
        refine RunAll.cons (isS ((⟨[t_38, x0.2.2.1], some 2⟩ : Sl (Int)).xs)) [(isRep (.sl (.int .u8)) (Kx K w.heap.size [some b_1]) (⟨[t_38, x0.2.2.1], some 2⟩ : Sl (Int)), 67)] rfl rfl ?_ ?_
        · intro W_ hW
          have S1 := S
          intro v_84 hF_83; replace hF_83 : RepV _ _ _ _ _ := hF_83
          replace S1 := S1.put (by decide : 67 < 78) (v_84)
          refine fill_nil S1 ?_; clear S1; intro a_ S1
          replace W := W.step hW
          have S0 := S.defers; replace S := S1; clear S1
          refine w_go S rfl (op_str (K := _) S rfl ty23 ty9 rfl rfl rfl hF_83 ?_)
          clear S; intro a S
          refine wpList_nil ?_
          exact RPost.mk_ S rfl S0 ⟨rfl, hF_83.byt⟩ (Below.refl _ _)
        refine RunAll.cons (isS s_49) [(isS ((⟨[t_38, x0.2.2.1], some 2⟩ : Sl (Int)).xs), 68)] rfl rfl ?_ ?_
        · intro W_ hW
          have S1 := S
          rintro _ ⟨rfl, hF_85⟩
          replace S1 := S1.put (by decide : 68 < 78) (.string (strOfNums ((⟨[t_38, x0.2.2.1], some 2⟩ : Sl (Int)).xs)))
          refine fill_nil S1 ?_; clear S1; intro a_ S1
          have S0 := S.defers; replace S := S1; clear S1
          refine w_go S rfl (op_cat S rfl rfl rfl (by kernel_rfl) rfl es_49 ?_)
          clear S; intro a S
          refine wpList_nil ?_
          exact RPost.mk_ S rfl S0 ⟨rfl, (catS_ok (strG ([7, 5]) (by decide) (by decide)) hF_85 es_49)⟩ (Below.refl _ _)
        refine RunAll.cons (eqv (.pointer (some ((⟨b_1, 0, .none⟩ : Addr).add (coff (.pair (.int .u8) (.pair .bool (.pair (.int .u8) (.pair (.int .u16) (.int .u8))))) 3))))) [] rfl rfl ?_ ?_
        · intro W_ hW
          have S1 := S
          refine fill_nil S1 ?_; clear S1; intro a_ S1
          replace B_2 := B_2.step hW
          have S0 := S.defers; replace S := S1; clear S1
          refine wl_pure (l' := [(70, .pointer (some ((⟨b_1, 0, .none⟩ : Addr).add (coff (.pair (.int .u8) (.pair .bool (.pair (.int .u8) (.pair (.int .u16) (.int .u8))))) 3)))), (3, .int .u8 x0.2.2.2.2), (1, .pointer (some (⟨b_1, 0, .none⟩ : Addr)))]) S tys tys_ok 1 (by kernel_rfl) ?_; clear S; intro a S
          refine wpList_nil ?_
          exact RPost.mk_ S rfl S0 rfl (Below.refl _ _)
        refine RunAll.cons (isI .u16 x0.2.2.2.1) [(eqv (.pointer (some ((⟨b_1, 0, .none⟩ : Addr).add (coff (.pair (.int .u8) (.pair .bool (.pair (.int .u8) (.pair (.int .u16) (.int .u8))))) 3)))), 70)] rfl rfl ?_ ?_
        · intro W_ hW
          have S1 := S
          intro v_88 hF_87; obtain rfl : v_88 = .pointer (some ((⟨b_1, 0, .none⟩ : Addr).add (coff (.pair (.int .u8) (.pair .bool (.pair (.int .u8) (.pair (.int .u16) (.int .u8))))) 3))) := hF_87
          replace S1 := S1.put (by decide : 70 < 78) (.pointer (some ((⟨b_1, 0, .none⟩ : Addr).add (coff (.pair (.int .u8) (.pair .bool (.pair (.int .u8) (.pair (.int .u16) (.int .u8))))) 3))))
          refine fill_nil S1 ?_; clear S1; intro a_ S1
          replace B_2 := B_2.step hW
          have S0 := S.defers; replace S := S1; clear S1
          refine w_go S rfl (op_load (t := (.int .u16)) (x := x0.2.2.2.1) S rfl ty33 rfl rfl rfl (RepAt.add 3 (RepAt.st B_2.at_)) ?_)
          clear S; intro a v_89 R_90 S
          obtain ⟨rfl, GR_90⟩ := RepV.int R_90
          refine wpList_nil ?_
          exact RPost.mk_ S rfl S0 ⟨rfl, GR_90⟩ (Below.refl _ _)
        refine RunAll.cons (isS t_52) [(isI .u16 x0.2.2.2.1, 71)] rfl rfl ?_ ?_
        · intro W_ hW
          have S1 := S
          rintro _ ⟨rfl, hF_91⟩
          replace S1 := S1.put (by decide : 71 < 78) (.int .u16 x0.2.2.2.1)
          refine fill_nil S1 ?_; clear S1; intro a_ S1
          replace W := W.step hW
          have S0 := S.defers; replace S := S1; clear S1
          refine w_go S rfl (op_call (vs := [.int .u16 x0.2.2.2.1]) S rfl cb38 rfl rfl rfl (c38 (Kx K w.heap.size [some b_1]) n W_ x0.2.2.2.1 hF_91 et_52) ?_)
          rintro _ w_96 ⟨v_93, rfl, R_94, hb_95⟩; refine ⟨_, rfl, ?_⟩
          replace R_94 := RepV.back R_94 W
          clear S; intro a S
          obtain ⟨rfl, GR_94⟩ := RepV.str R_94
          refine wpList_nil ?_
          exact RPost.mk_ S rfl S0 ⟨rfl, GR_94⟩ (hb_95)
        refine RunAll.cons (isS s_57) [(isS s_49, 69), (isS t_52, 72)] rfl rfl ?_ ?_
        · intro W_ hW
          have S1 := S
          rintro _ ⟨rfl, hF_97⟩
          replace S1 := S1.put (by decide : 69 < 78) (.string (strOfNums s_49))
          rintro _ ⟨rfl, hF_99⟩
          replace S1 := S1.put (by decide : 72 < 78) (.string (strOfNums t_52))
          refine fill_nil S1 ?_; clear S1; intro a_ S1
          have S0 := S.defers; replace S := S1; clear S1
          refine w_go S rfl (op_cat S rfl rfl rfl rfl rfl es_57 ?_)
          clear S; intro a S
          refine wpList_nil ?_
          exact RPost.mk_ S rfl S0 ⟨rfl, (catS_ok hF_97 hF_99 es_57)⟩ (Below.refl _ _)
        refine RunAll.cons (isI .u8 x0.2.2.2.2) [] rfl rfl ?_ ?_
        · intro W_ hW
          have S1 := S
          refine fill_nil S1 ?_; clear S1; intro a_ S1
          have S0 := S.defers; replace S := S1; clear S1
          refine wl_pure (l' := [(74, .int .u8 x0.2.2.2.2), (3, .int .u8 x0.2.2.2.2), (1, .pointer (some (⟨b_1, 0, .none⟩ : Addr)))]) S tys tys_ok 1 (by kernel_rfl) ?_; clear S; intro a S
          refine wpList_nil ?_
          exact RPost.mk_ S rfl S0 ⟨rfl, GR_17⟩ (Below.refl _ _)
        refine RunAll.cons (isRep (.sl (.int .u8)) (Kx K w.heap.size [some b_1]) (⟨[x0.2.2.2.2], some 1⟩ : Sl (Int))) [(isI .u8 x0.2.2.2.2, 74)] rfl rfl ?_ ?_
        · intro W_ hW
          have S1 := S
          rintro _ ⟨rfl, hF_101⟩
          replace S1 := S1.put (by decide : 74 < 78) (.int .u8 x0.2.2.2.2)
          refine fill_nil S1 ?_; clear S1; intro a_ S1
          replace W := W.step hW
          have S0 := S.defers; replace S := S1; clear S1
          refine w_go S rfl (op_buildSlice (K := K) (e := (.int .u8)) (vs := [.int .u8 x0.2.2.2.2]) (xs := [x0.2.2.2.2]) S W rfl ty23 rfl rfl (by kernel_rfl) rfl rfl rfl rfl rfl ⟨(RepV.mkInt hF_101), trivial⟩ ?_)
          clear S; intro a w_106 v_103 hb_105 R_104 S
          refine wpList_nil ?_
          exact RPost.mk_ S rfl S0 R_104 (hb_105)
        refine RunAll.cons (isS ((⟨[x0.2.2.2.2], some 1⟩ : Sl (Int)).xs)) [(isRep (.sl (.int .u8)) (Kx K w.heap.size [some b_1]) (⟨[x0.2.2.2.2], some 1⟩ : Sl (Int)), 75)] rfl rfl ?_ ?_
        · intro W_ hW
          have S1 := S
          intro v_108 hF_107; replace hF_107 : RepV _ _ _ _ _ := hF_107
          replace S1 := S1.put (by decide : 75 < 78) (v_108)
          refine fill_nil S1 ?_; clear S1; intro a_ S1
          replace W := W.step hW
          have S0 := S.defers; replace S := S1; clear S1
          refine w_go S rfl (op_str (K := _) S rfl ty23 ty9 rfl rfl rfl hF_107 ?_)
          clear S; intro a S
          refine wpList_nil ?_
          exact RPost.mk_ S rfl S0 ⟨rfl, hF_107.byt⟩ (Below.refl _ _)
        refine RunAll.cons (isS s_62) [(isS s_57, 73), (isS ((⟨[x0.2.2.2.2], some 1⟩ : Sl (Int)).xs), 76)] rfl rfl ?_ ?_
        · intro W_ hW
          have S1 := S
          rintro _ ⟨rfl, hF_109⟩
          replace S1 := S1.put (by decide : 73 < 78) (.string (strOfNums s_57))
          rintro _ ⟨rfl, hF_111⟩
          replace S1 := S1.put (by decide : 76 < 78) (.string (strOfNums ((⟨[x0.2.2.2.2], some 1⟩ : Sl (Int)).xs)))
          refine fill_nil S1 ?_; clear S1; intro a_ S1
          have S0 := S.defers; replace S := S1; clear S1
          refine w_go S rfl (op_cat S rfl rfl rfl rfl rfl es_62 ?_)
          clear S; intro a S
          refine wpList_nil ?_
          exact RPost.mk_ S rfl S0 ⟨rfl, (catS_ok hF_109 hF_111 es_62)⟩ (Below.refl _ _)
        refine RunAll.cons (isS s_62) [(isS s_62, 77)] rfl rfl ?_ ?_
        · intro W_ hW
          have S1 := S
          rintro _ ⟨rfl, hF_113⟩
          replace S1 := S1.put (by decide : 77 < 78) (.string (strOfNums s_62))
          refine fill_nil S1 ?_; clear S1; intro a_ S1
          have S0 := S.defers; replace S := S1; clear S1
          refine wl_pure (l' := [(2, .string (strOfNums s_62)), (77, .string (strOfNums s_62)), (3, .int .u8 x0.2.2.2.2), (1, .pointer (some (⟨b_1, 0, .none⟩ : Addr)))]) S tys tys_ok 1 (by kernel_rfl) ?_; clear S; intro a S
          refine wpList_nil ?_
          exact RPost.mk_ S rfl S0 ⟨rfl, hF_113⟩ (Below.refl _ _)
        exact trivial
      intro w_115 hb_116
      refine EndE.some_ rfl ?_
      intro v_118 hF_117; replace hF_117 : RepV _ _ _ _ _ := hF_117
      replace S := S.put (by decide : 63 < 78) (v_118)
      refine EndE.some_ rfl ?_
      rintro _ ⟨rfl, hF_119⟩
      replace S := S.put (by decide : 64 < 78) (.int .u8 t_38)
      refine EndE.some_ rfl ?_
      intro v_122 hF_121; obtain rfl : v_122 = .pointer (some ((⟨b_1, 0, .none⟩ : Addr).add (coff (.pair (.int .u8) (.pair .bool (.pair (.int .u8) (.pair (.int .u16) (.int .u8))))) 2))) := hF_121
      replace S := S.put (by decide : 65 < 78) (.pointer (some ((⟨b_1, 0, .none⟩ : Addr).add (coff (.pair (.int .u8) (.pair .bool (.pair (.int .u8) (.pair (.int .u16) (.int .u8))))) 2))))
      refine EndE.some_ rfl ?_
      rintro _ ⟨rfl, hF_123⟩
      replace S := S.put (by decide : 66 < 78) (.int .u8 x0.2.2.1)
      refine EndE.some_ rfl ?_
      intro v_126 hF_125; replace hF_125 : RepV _ _ _ _ _ := hF_125
      replace S := S.put (by decide : 67 < 78) (v_126)
      refine EndE.some_ rfl ?_
      rintro _ ⟨rfl, hF_127⟩
      replace S := S.put (by decide : 68 < 78) (.string (strOfNums ((⟨[t_38, x0.2.2.1], some 2⟩ : Sl (Int)).xs)))
      refine EndE.some_ rfl ?_
      rintro _ ⟨rfl, hF_129⟩
      replace S := S.put (by decide : 69 < 78) (.string (strOfNums s_49))
      refine EndE.some_ rfl ?_
      intro v_132 hF_131; obtain rfl : v_132 = .pointer (some ((⟨b_1, 0, .none⟩ : Addr).add (coff (.pair (.int .u8) (.pair .bool (.pair (.int .u8) (.pair (.int .u16) (.int .u8))))) 3))) := hF_131
      replace S := S.put (by decide : 70 < 78) (.pointer (some ((⟨b_1, 0, .none⟩ : Addr).add (coff (.pair (.int .u8) (.pair .bool (.pair (.int .u8) (.pair (.int .u16) (.int .u8))))) 3))))
      refine EndE.some_ rfl ?_
      rintro _ ⟨rfl, hF_133⟩
      replace S := S.put (by decide : 71 < 78) (.int .u16 x0.2.2.2.1)
      refine EndE.some_ rfl ?_
      rintro _ ⟨rfl, hF_135⟩
      replace S := S.put (by decide : 72 < 78) (.string (strOfNums t_52))
      refine EndE.some_ rfl ?_
      rintro _ ⟨rfl, hF_137⟩
      replace S := S.put (by decide : 73 < 78) (.string (strOfNums s_57))
      refine EndE.some_ rfl ?_
      rintro _ ⟨rfl, hF_139⟩
      replace S := S.put (by decide : 74 < 78) (.int .u8 x0.2.2.2.2)
      refine EndE.some_ rfl ?_
      intro v_142 hF_141; replace hF_141 : RepV _ _ _ _ _ := hF_141
      replace S := S.put (by decide : 75 < 78) (v_142)
      refine EndE.some_ rfl ?_
      rintro _ ⟨rfl, hF_143⟩
      replace S := S.put (by decide : 76 < 78) (.string (strOfNums ((⟨[x0.2.2.2.2], some 1⟩ : Sl (Int)).xs)))
      refine EndE.some_ rfl ?_
      rintro _ ⟨rfl, hF_145⟩
      replace S := S.put (by decide : 77 < 78) (.string (strOfNums s_62))
      refine EndE.some_ rfl ?_
      rintro _ ⟨rfl, hF_147⟩
      replace S := S.put (by decide : 2 < 78) (.string (strOfNums s_62))
      refine endE_nil S ?_; clear S; intro a S
      replace B_2 := B_2.step hb_116
      replace W := W.step hb_116
      refine then_n ?_
      replace S := S.sub (l' := [(2, .string (strOfNums s_62))]) (by exact ⟨rfl, trivial⟩)
      refine wp_ret ?_
      obtain rfl := Option.some.inj h
      exact b_ret1 S rfl rfl ⟨_, rfl, (RepV.mkStr hF_147), W.below⟩
theorem cb13 : callB Try.prog 13 = true := by kernel_rfl
def p48 (n : Nat) (x0 : Sl (Int)) : Option ((Int × Bool × Int × Int × Int)) :=
  (idx x0.xs 2).bind fun y_5 =>
  (idx x0.xs 2).bind fun y_11 =>
  (idx x0.xs 3).bind fun y_17 =>
  (p46 n x0 4).bind fun t_23 =>
  (idx x0.xs 6).bind fun y_28 =>
  some (bitsI .andNot .u8 y_5 128, ((bitsI .and .u8 y_11 128) != 0), y_17, t_23, y_28)
set_option maxHeartbeats 4000000 in
set_option maxRecDepth 100000 in
/-- plugboard/descriptors.DecodeEndpoint$1 -/
theorem c48 (K : Nat → Prop) (n : Nat) (w : World) (x0 : Sl (Int)) (v0 : Value) (R0 : RepV (.sl (.int .u8)) w K v0 x0) {r : (Int × Bool × Int × Int × Int)} (h : p48 n x0 = some r) :
    Calls Try.prog 48 #[v0] w (Ret1 (.st (.pair (.int .u8) (.pair .bool (.pair (.int .u8) (.pair (.int .u16) (.int .u8)))))) w (Kx K w.heap.size []) r) := by
  refine enter (args := [v0]) Try.func48 rfl 21 rfl rfl fun a S => ?_
  have W := Wd.start w
  replace R0 := R0.arg
  unfold p48 at h
  replace S : St 21 a [(0, v0)] := S
  refine wp_seq ?_
  refine wp_region_lit ?_
  refine w_go S rfl (op_alloc (K := K) (n := w.heap.size) (L := []) (t := (.st (.pair (.int .u8) (.pair .bool (.pair (.int .u8) (.pair (.int .u16) (.int .u8))))))) (y := (0, false, 0, 0, 0)) S rfl rfl rfl _ z35 (fun w K => ⟨[.int .u8 0], [.bool false, .int .u8 0, .int .u16 0, .int .u8 0], rfl, ⟨rfl, by decide⟩, ⟨[.bool false], [.int .u8 0, .int .u16 0, .int .u8 0], rfl, rfl, ⟨[.int .u8 0], [.int .u16 0, .int .u8 0], rfl, ⟨rfl, by decide⟩, ⟨[.int .u16 0], [.int .u8 0], rfl, ⟨rfl, by decide⟩, ⟨rfl, by decide⟩⟩⟩⟩⟩) ?_)
  clear S; intro a w_3 b_1 hb_4 B_2 S
  replace R0 := R0.box hb_4
  replace W := W.box hb_4
  refine wpList_nil ?_
  refine then_n ?_
  refine wp_seq ?_
  obtain ⟨y_5, ey_5, h⟩ := bindS h
  obtain ⟨y_11, ey_11, h⟩ := bindS h
  obtain ⟨y_17, ey_17, h⟩ := bindS h
  obtain ⟨t_23, et_23, h⟩ := bindS h
  obtain ⟨y_28, ey_28, h⟩ := bindS h
  have hR : Rel (Kx K w.heap.size [some b_1]) (Sto (.st (.pair (.int .u8) (.pair .bool (.pair (.int .u8) (.pair (.int .u16) (.int .u8)))))) 35 (Kx K w.heap.size [some b_1]) b_1 (bitsI .andNot .u8 y_5 128, ((bitsI .and .u8 y_11 128) != 0), y_17, t_23, y_28)) := Sto.rel (Kx.not (by simp))
  refine wp_region_all hR [isRep (.sl (.int .u8)) (Kx K w.heap.size [some b_1]) x0, isEl (.int .u8) (Kx K w.heap.size [some b_1]) y_5, isI .u8 y_5, isI .u8 (bitsI .andNot .u8 y_5 128), isRep (.sl (.int .u8)) (Kx K w.heap.size [some b_1]) x0, isEl (.int .u8) (Kx K w.heap.size [some b_1]) y_11, isI .u8 y_11, isI .u8 (bitsI .and .u8 y_11 128), eqv (.bool ((bitsI .and .u8 y_11 128) != 0)), isRep (.sl (.int .u8)) (Kx K w.heap.size [some b_1]) x0, isEl (.int .u8) (Kx K w.heap.size [some b_1]) y_17, isI .u8 y_17, isRep (.sl (.int .u8)) (Kx K w.heap.size [some b_1]) x0, isI .u16 t_23, isRep (.sl (.int .u8)) (Kx K w.heap.size [some b_1]) x0, isEl (.int .u8) (Kx K w.heap.size [some b_1]) y_28, isI .u8 y_28, isRep (.st (.pair (.int .u8) (.pair .bool (.pair (.int .u8) (.pair (.int .u16) (.int .u8)))))) (Kx K w.heap.size [some b_1]) (bitsI .andNot .u8 y_5 128, ((bitsI .and .u8 y_11 128) != 0), y_17, t_23, y_28), isBx (.st (.pair (.int .u8) (.pair .bool (.pair (.int .u8) (.pair (.int .u16) (.int .u8)))))) 35 (Kx K w.heap.size [some b_1]) b_1 (bitsI .andNot .u8 y_5 128, ((bitsI .and .u8 y_11 128) != 0), y_17, t_23, y_28)] [[], [(0, 3)], [(1, 4)], [(2, 5)], [], [(4, 7)], [(5, 8)], [(6, 9)], [(7, 10)], [], [(9, 12)], [(10, 13)], [], [(12, 15)], [], [(14, 17)], [(15, 18)], [(3, 6), (8, 11), (11, 14), (13, 16), (16, 19)], [(17, 20)]] (by kernel_rfl) (by rw [S.size]; kernel_rfl) (by kernel_rfl) (by kernel_rfl) rfl ⟨(stab_rep hR), (stab_el hR), stab_I, stab_I, (stab_rep hR), (stab_el hR), stab_I, stab_I, (stab_eqv _), (stab_rep hR), (stab_el hR), stab_I, (stab_rep hR), stab_I, (stab_rep hR), (stab_el hR), stab_I, (stab_rep hR), stab_bx, trivial⟩ ?_ ?_
  ·
    refine RunAll.cons (isRep (.sl (.int .u8)) (Kx K w.heap.size [some b_1]) x0) [] rfl rfl ?_ ?_
    · intro W_ hW
      have S1 := S
      refine fill_nil S1 ?_; clear S1; intro a_ S1
      replace R0 := R0.lv (hR.lv _ _ hW)
      have S0 := S.defers; replace S := S1; clear S1
      refine wl_pure (l' := [(3, v0), (2, .pointer (some (⟨b_1, 0, .none⟩ : Addr))), (0, v0)]) S tys tys_ok 1 (by kernel_rfl) ?_; clear S; intro a S
      refine wpList_nil ?_
      exact RPost.mk_ S rfl S0 R0 (hR.below _ _ (Below.refl _ _))
    refine RunAll.cons (isEl (.int .u8) (Kx K w.heap.size [some b_1]) y_5) [(isRep (.sl (.int .u8)) (Kx K w.heap.size [some b_1]) x0, 3)] rfl rfl ?_ ?_
    · intro W_ hW
      have S1 := S
      intro v_37 hF_36; replace hF_36 : RepV _ _ _ _ _ := hF_36
      replace S1 := S1.put (by decide : 3 < 21) (v_37)
      refine fill_nil S1 ?_; clear S1; intro a_ S1
      have S0 := S.defers; replace S := S1; clear S1
      refine w_go S rfl (op_indexAddr S rfl ty23 rfl rfl rfl hF_36 rfl ey_5 ?_)
      clear S; intro a p_38 R_39 H_40 S
      refine wpList_nil ?_
      exact RPost.mk_ S rfl S0 ⟨_, rfl, R_39, H_40⟩ (hR.below _ _ (Below.refl _ _))
    refine RunAll.cons (isI .u8 y_5) [(isEl (.int .u8) (Kx K w.heap.size [some b_1]) y_5, 4)] rfl rfl ?_ ?_
    · intro W_ hW
      have S1 := S
      rintro _ ⟨p_43, rfl, R_44, H_45⟩
      replace S1 := S1.put (by decide : 4 < 21) (.pointer (some p_43))
      refine fill_nil S1 ?_; clear S1; intro a_ S1
      have S0 := S.defers; replace S := S1; clear S1
      refine w_go S rfl (op_load (t := (.int .u8)) (x := y_5) S rfl ty5 rfl rfl rfl R_44 ?_)
      clear S; intro a v_46 R_47 S
      obtain ⟨rfl, GR_47⟩ := RepV.int R_47
      refine wpList_nil ?_
      exact RPost.mk_ S rfl S0 ⟨rfl, GR_47⟩ (hR.below _ _ (Below.refl _ _))
    refine RunAll.cons (isI .u8 (bitsI .andNot .u8 y_5 128)) [(isI .u8 y_5, 5)] rfl rfl ?_ ?_
    · intro W_ hW
      have S1 := S
      rintro _ ⟨rfl, hF_48⟩
      replace S1 := S1.put (by decide : 5 < 21) (.int .u8 y_5)
      refine fill_nil S1 ?_; clear S1; intro a_ S1
      have S0 := S.defers; replace S := S1; clear S1
      refine wl_pure (l' := [(6, .int .u8 (bitsI .andNot .u8 y_5 128)), (5, .int .u8 y_5), (2, .pointer (some (⟨b_1, 0, .none⟩ : Addr))), (0, v0)]) S tys tys_ok 1 (by kernel_rfl) ?_; clear S; intro a S
      refine wpList_nil ?_
      exact RPost.mk_ S rfl S0 ⟨rfl, inR_bits⟩ (hR.below _ _ (Below.refl _ _))
    refine RunAll.cons (isRep (.sl (.int .u8)) (Kx K w.heap.size [some b_1]) x0) [] rfl rfl ?_ ?_
    · intro W_ hW
      have S1 := S
      refine fill_nil S1 ?_; clear S1; intro a_ S1
      replace R0 := R0.lv (hR.lv _ _ hW)
      have S0 := S.defers; replace S := S1; clear S1
      refine wl_pure (l' := [(7, v0), (2, .pointer (some (⟨b_1, 0, .none⟩ : Addr))), (0, v0)]) S tys tys_ok 1 (by kernel_rfl) ?_; clear S; intro a S
      refine wpList_nil ?_
      exact RPost.mk_ S rfl S0 R0 (hR.below _ _ (Below.refl _ _))
    refine RunAll.cons (isEl (.int .u8) (Kx K w.heap.size [some b_1]) y_11) [(isRep (.sl (.int .u8)) (Kx K w.heap.size [some b_1]) x0, 7)] rfl rfl ?_ ?_
    · intro W_ hW
      have S1 := S
      intro v_51 hF_50; replace hF_50 : RepV _ _ _ _ _ := hF_50
      replace S1 := S1.put (by decide : 7 < 21) (v_51)
      refine fill_nil S1 ?_; clear S1; intro a_ S1
      have S0 := S.defers; replace S := S1; clear S1
      refine w_go S rfl (op_indexAddr S rfl ty23 rfl rfl rfl hF_50 rfl ey_11 ?_)
      clear S; intro a p_52 R_53 H_54 S
      refine wpList_nil ?_
      exact RPost.mk_ S rfl S0 ⟨_, rfl, R_53, H_54⟩ (hR.below _ _ (Below.refl _ _))
    refine RunAll.cons (isI .u8 y_11) [(isEl (.int .u8) (Kx K w.heap.size [some b_1]) y_11, 8)] rfl rfl ?_ ?_
    · intro W_ hW
      have S1 := S
      rintro _ ⟨p_57, rfl, R_58, H_59⟩
      replace S1 := S1.put (by decide : 8 < 21) (.pointer (some p_57))
      refine fill_nil S1 ?_; clear S1; intro a_ S1
      have S0 := S.defers; replace S := S1; clear S1
      refine w_go S rfl (op_load (t := (.int .u8)) (x := y_11) S rfl ty5 rfl rfl rfl R_58 ?_)
      clear S; intro a v_60 R_61 S
      obtain ⟨rfl, GR_61⟩ := RepV.int R_61
      refine wpList_nil ?_
      exact RPost.mk_ S rfl S0 ⟨rfl, GR_61⟩ (hR.below _ _ (Below.refl _ _))
    refine RunAll.cons (isI .u8 (bitsI .and .u8 y_11 128)) [(isI .u8 y_11, 9)] rfl rfl ?_ ?_
    · intro W_ hW
      have S1 := S
      rintro _ ⟨rfl, hF_62⟩
      replace S1 := S1.put (by decide : 9 < 21) (.int .u8 y_11)
      refine fill_nil S1 ?_; clear S1; intro a_ S1
      have S0 := S.defers; replace S := S1; clear S1
      refine wl_pure (l' := [(10, .int .u8 (bitsI .and .u8 y_11 128)), (9, .int .u8 y_11), (2, .pointer (some (⟨b_1, 0, .none⟩ : Addr))), (0, v0)]) S tys tys_ok 1 (by kernel_rfl) ?_; clear S; intro a S
      refine wpList_nil ?_
      exact RPost.mk_ S rfl S0 ⟨rfl, inR_bits⟩ (hR.below _ _ (Below.refl _ _))
    refine RunAll.cons (eqv (.bool ((bitsI .and .u8 y_11 128) != 0))) [(isI .u8 (bitsI .and .u8 y_11 128), 10)] rfl rfl ?_ ?_
    · intro W_ hW
      have S1 := S
      rintro _ ⟨rfl, hF_64⟩
      replace S1 := S1.put (by decide : 10 < 21) (.int .u8 (bitsI .and .u8 y_11 128))
      refine fill_nil S1 ?_; clear S1; intro a_ S1
      have S0 := S.defers; replace S := S1; clear S1
      refine wl_pure (l' := [(11, .bool ((bitsI .and .u8 y_11 128) != 0)), (10, .int .u8 (bitsI .and .u8 y_11 128)), (2, .pointer (some (⟨b_1, 0, .none⟩ : Addr))), (0, v0)]) S tys tys_ok 1 (by kernel_rfl) ?_; clear S; intro a S
      refine wpList_nil ?_
      exact RPost.mk_ S rfl S0 rfl (hR.below _ _ (Below.refl _ _))
    refine RunAll.cons (isRep (.sl (.int .u8)) (Kx K w.heap.size [some b_1]) x0) [] rfl rfl ?_ ?_
    · intro W_ hW
      have S1 := S
      refine fill_nil S1 ?_; clear S1; intro a_ S1
      replace R0 := R0.lv (hR.lv _ _ hW)
      have S0 := S.defers; replace S := S1; clear S1
      refine wl_pure (l' := [(12, v0), (2, .pointer (some (⟨b_1, 0, .none⟩ : Addr))), (0, v0)]) S tys tys_ok 1 (by kernel_rfl) ?_; clear S; intro a S
      refine wpList_nil ?_
      exact RPost.mk_ S rfl S0 R0 (hR.below _ _ (Below.refl _ _))
    refine RunAll.cons (isEl (.int .u8) (Kx K w.heap.size [some b_1]) y_17) [(isRep (.sl (.int .u8)) (Kx K w.heap.size [some b_1]) x0, 12)] rfl rfl ?_ ?_
    · intro W_ hW
      have S1 := S
      intro v_67 hF_66; replace hF_66 : RepV _ _ _ _ _ := hF_66
      replace S1 := S1.put (by decide : 12 < 21) (v_67)
      refine fill_nil S1 ?_; clear S1; intro a_ S1
      have S0 := S.defers; replace S := S1; clear S1
      refine w_go S rfl (op_indexAddr S rfl ty23 rfl rfl rfl hF_66 rfl ey_17 ?_)
      clear S; intro a p_68 R_69 H_70 S
      refine wpList_nil ?_
      exact RPost.mk_ S rfl S0 ⟨_, rfl, R_69, H_70⟩ (hR.below _ _ (Below.refl _ _))
    refine RunAll.cons (isI .u8 y_17) [(isEl (.int .u8) (Kx K w.heap.size [some b_1]) y_17, 13)] rfl rfl ?_ ?_
    · intro W_ hW
      have S1 := S
      rintro _ ⟨p_73, rfl, R_74, H_75⟩
      replace S1 := S1.put (by decide : 13 < 21) (.pointer (some p_73))
      refine fill_nil S1 ?_; clear S1; intro a_ S1
      have S0 := S.defers; replace S := S1; clear S1
      refine w_go S rfl (op_load (t := (.int .u8)) (x := y_17) S rfl ty5 rfl rfl rfl R_74 ?_)
      clear S; intro a v_76 R_77 S
      obtain ⟨rfl, GR_77⟩ := RepV.int R_77
      refine wpList_nil ?_
      exact RPost.mk_ S rfl S0 ⟨rfl, GR_77⟩ (hR.below _ _ (Below.refl _ _))
    refine RunAll.cons (isRep (.sl (.int .u8)) (Kx K w.heap.size [some b_1]) x0) [] rfl rfl ?_ ?_
    · intro W_ hW
      have S1 := S
      refine fill_nil S1 ?_; clear S1; intro a_ S1
      replace R0 := R0.lv (hR.lv _ _ hW)
      have S0 := S.defers; replace S := S1; clear S1
      refine wl_pure (l' := [(15, v0), (2, .pointer (some (⟨b_1, 0, .none⟩ : Addr))), (0, v0)]) S tys tys_ok 1 (by kernel_rfl) ?_; clear S; intro a S
      refine wpList_nil ?_
      exact RPost.mk_ S rfl S0 R0 (hR.below _ _ (Below.refl _ _))
    refine RunAll.cons (isI .u16 t_23) [(isRep (.sl (.int .u8)) (Kx K w.heap.size [some b_1]) x0, 15)] rfl rfl ?_ ?_
    · intro W_ hW
      have S1 := S
      intro v_79 hF_78; replace hF_78 : RepV _ _ _ _ _ := hF_78
      replace S1 := S1.put (by decide : 15 < 21) (v_79)
      refine fill_nil S1 ?_; clear S1; intro a_ S1
      replace W := Sto.wd W hW (by simp)
      have S0 := S.defers; replace S := S1; clear S1
      refine w_go S rfl (op_call (vs := [v_79, .int .i64 4]) S rfl cb46 rfl rfl rfl (c46 (Kx K w.heap.size [some b_1]) n W_ x0 _ hF_78 4 (by decide) et_23) ?_)
      rintro _ w_83 ⟨v_80, rfl, R_81, hb_82⟩; refine ⟨_, rfl, ?_⟩
      replace R_81 := RepV.back R_81 W
      clear S; intro a S
      obtain ⟨rfl, GR_81⟩ := RepV.int R_81
      refine wpList_nil ?_
      exact RPost.mk_ S rfl S0 ⟨rfl, GR_81⟩ (hR.below _ _ (hb_82))
    refine RunAll.cons (isRep (.sl (.int .u8)) (Kx K w.heap.size [some b_1]) x0) [] rfl rfl ?_ ?_
    · intro W_ hW
      have S1 := S
      refine fill_nil S1 ?_; clear S1; intro a_ S1
      replace R0 := R0.lv (hR.lv _ _ hW)
      have S0 := S.defers; replace S := S1; clear S1
      refine wl_pure (l' := [(17, v0), (2, .pointer (some (⟨b_1, 0, .none⟩ : Addr))), (0, v0)]) S tys tys_ok 1 (by kernel_rfl) ?_; clear S; intro a S
      refine wpList_nil ?_
      exact RPost.mk_ S rfl S0 R0 (hR.below _ _ (Below.refl _ _))
    refine RunAll.cons (isEl (.int .u8) (Kx K w.heap.size [some b_1]) y_28) [(isRep (.sl (.int .u8)) (Kx K w.heap.size [some b_1]) x0, 17)] rfl rfl ?_ ?_
    · intro W_ hW
      have S1 := S
      intro v_85 hF_84; replace hF_84 : RepV _ _ _ _ _ := hF_84
      replace S1 := S1.put (by decide : 17 < 21) (v_85)
      refine fill_nil S1 ?_; clear S1; intro a_ S1
      have S0 := S.defers; replace S := S1; clear S1
      refine w_go S rfl (op_indexAddr S rfl ty23 rfl rfl rfl hF_84 rfl ey_28 ?_)
      clear S; intro a p_86 R_87 H_88 S
      refine wpList_nil ?_
      exact RPost.mk_ S rfl S0 ⟨_, rfl, R_87, H_88⟩ (hR.below _ _ (Below.refl _ _))
    refine RunAll.cons (isI .u8 y_28) [(isEl (.int .u8) (Kx K w.heap.size [some b_1]) y_28, 18)] rfl rfl ?_ ?_
    · intro W_ hW
      have S1 := S
      rintro _ ⟨p_91, rfl, R_92, H_93⟩
      replace S1 := S1.put (by decide : 18 < 21) (.pointer (some p_91))
      refine fill_nil S1 ?_; clear S1; intro a_ S1
      have S0 := S.defers; replace S := S1; clear S1
      refine w_go S rfl (op_load (t := (.int .u8)) (x := y_28) S rfl ty5 rfl rfl rfl R_92 ?_)
      clear S; intro a v_94 R_95 S
      obtain ⟨rfl, GR_95⟩ := RepV.int R_95
      refine wpList_nil ?_
      exact RPost.mk_ S rfl S0 ⟨rfl, GR_95⟩ (hR.below _ _ (Below.refl _ _))
    refine RunAll.cons (isRep (.st (.pair (.int .u8) (.pair .bool (.pair (.int .u8) (.pair (.int .u16) (.int .u8)))))) (Kx K w.heap.size [some b_1]) (bitsI .andNot .u8 y_5 128, ((bitsI .and .u8 y_11 128) != 0), y_17, t_23, y_28)) [(isI .u8 (bitsI .andNot .u8 y_5 128), 6), (eqv (.bool ((bitsI .and .u8 y_11 128) != 0)), 11), (isI .u8 y_17, 14), (isI .u16 t_23, 16), (isI .u8 y_28, 19)] rfl rfl ?_ ?_
    · intro W_ hW
      have S1 := S
      rintro _ ⟨rfl, hF_96⟩
      replace S1 := S1.put (by decide : 6 < 21) (.int .u8 (bitsI .andNot .u8 y_5 128))
      intro v_99 hF_98; obtain rfl : v_99 = .bool ((bitsI .and .u8 y_11 128) != 0) := hF_98
      replace S1 := S1.put (by decide : 11 < 21) (.bool ((bitsI .and .u8 y_11 128) != 0))
      rintro _ ⟨rfl, hF_100⟩
      replace S1 := S1.put (by decide : 14 < 21) (.int .u8 y_17)
      rintro _ ⟨rfl, hF_102⟩
      replace S1 := S1.put (by decide : 16 < 21) (.int .u16 t_23)
      rintro _ ⟨rfl, hF_104⟩
      replace S1 := S1.put (by decide : 19 < 21) (.int .u8 y_28)
      refine fill_nil S1 ?_; clear S1; intro a_ S1
      have S0 := S.defers; replace S := S1; clear S1
      refine w_go S rfl (op_build (K := (Kx K w.heap.size [some b_1])) (f := (.pair (.int .u8) (.pair .bool (.pair (.int .u8) (.pair (.int .u16) (.int .u8)))))) (z0 := (0, false, 0, 0, 0)) (x := (bitsI .andNot .u8 y_5 128, ((bitsI .and .u8 y_11 128) != 0), y_17, t_23, y_28)) (vs := [.int .u8 (bitsI .andNot .u8 y_5 128), .bool ((bitsI .and .u8 y_11 128) != 0), .int .u8 y_17, .int .u16 t_23, .int .u8 y_28]) S _ rfl ty35 z35 (fun w K => ⟨[.int .u8 0], [.bool false, .int .u8 0, .int .u16 0, .int .u8 0], rfl, ⟨rfl, by decide⟩, ⟨[.bool false], [.int .u8 0, .int .u16 0, .int .u8 0], rfl, rfl, ⟨[.int .u8 0], [.int .u16 0, .int .u8 0], rfl, ⟨rfl, by decide⟩, ⟨[.int .u16 0], [.int .u8 0], rfl, ⟨rfl, by decide⟩, ⟨rfl, by decide⟩⟩⟩⟩⟩) rfl rfl rfl [(0, .int .u8 (bitsI .andNot .u8 y_5 128)), (1, .bool ((bitsI .and .u8 y_11 128) != 0)), (2, .int .u8 y_17), (3, .int .u16 t_23), (4, .int .u8 y_28)] rfl ⟨_, (RepV.mkInt hF_96), rfl, rfl, ⟨_, RepV.mkBool, rfl, rfl, ⟨_, (RepV.mkInt hF_100), rfl, rfl, ⟨_, (RepV.mkInt hF_102), rfl, rfl, ⟨_, (RepV.mkInt hF_104), rfl, rfl, rfl⟩⟩⟩⟩⟩ ?_)
      clear S; intro a v_106 R_107 S
      refine wpList_nil ?_
      exact RPost.mk_ S rfl S0 R_107 (hR.below _ _ (Below.refl _ _))
    refine RunAll.cons (isBx (.st (.pair (.int .u8) (.pair .bool (.pair (.int .u8) (.pair (.int .u16) (.int .u8)))))) 35 (Kx K w.heap.size [some b_1]) b_1 (bitsI .andNot .u8 y_5 128, ((bitsI .and .u8 y_11 128) != 0), y_17, t_23, y_28)) [(isRep (.st (.pair (.int .u8) (.pair .bool (.pair (.int .u8) (.pair (.int .u16) (.int .u8)))))) (Kx K w.heap.size [some b_1]) (bitsI .andNot .u8 y_5 128, ((bitsI .and .u8 y_11 128) != 0), y_17, t_23, y_28), 20)] rfl rfl ?_ ?_
    · intro W_ hW
      have S1 := S
      intro v_109 hF_108; replace hF_108 : RepV _ _ _ _ _ := hF_108
      replace S1 := S1.put (by decide : 20 < 21) (v_109)
      refine fill_nil S1 ?_; clear S1; intro a_ S1
      obtain ⟨xo_110, B_111⟩ := hW.some_ ⟨_, B_2⟩
      have S0 := S.defers; replace S := S1; clear S1
      refine w_go S rfl (op_store (t' := (.st (.pair (.int .u8) (.pair .bool (.pair (.int .u8) (.pair (.int .u16) (.int .u8))))))) S rfl rfl ty35 rfl rfl rfl B_111 (by simp) Ln.whole hF_108 ?_)
      intro w_112 hw_113 B_
      replace B_111 : Bx (.st (.pair (.int .u8) (.pair .bool (.pair (.int .u8) (.pair (.int .u16) (.int .u8)))))) 35 w_112 (Kx K w.heap.size [some b_1]) b_1 (bitsI .andNot .u8 y_5 128, ((bitsI .and .u8 y_11 128) != 0), y_17, t_23, y_28) := B_; clear B_
      refine wpList_nil ?_
      exact RPost.mkN S S0 B_111 (Sto.of_wrote hw_113 B_111)
    exact trivial
  intro w_114 hb_115
  refine EndE.some_ rfl ?_
  intro v_117 hF_116; replace hF_116 : RepV _ _ _ _ _ := hF_116
  replace S := S.put (by decide : 3 < 21) (v_117)
  refine EndE.some_ rfl ?_
  rintro _ ⟨p_120, rfl, R_121, H_122⟩
  replace S := S.put (by decide : 4 < 21) (.pointer (some p_120))
  refine EndE.some_ rfl ?_
  rintro _ ⟨rfl, hF_123⟩
  replace S := S.put (by decide : 5 < 21) (.int .u8 y_5)
  refine EndE.some_ rfl ?_
  rintro _ ⟨rfl, hF_125⟩
  replace S := S.put (by decide : 6 < 21) (.int .u8 (bitsI .andNot .u8 y_5 128))
  refine EndE.some_ rfl ?_
  intro v_128 hF_127; replace hF_127 : RepV _ _ _ _ _ := hF_127
  replace S := S.put (by decide : 7 < 21) (v_128)
  refine EndE.some_ rfl ?_
  rintro _ ⟨p_131, rfl, R_132, H_133⟩
  replace S := S.put (by decide : 8 < 21) (.pointer (some p_131))
  refine EndE.some_ rfl ?_
  rintro _ ⟨rfl, hF_134⟩
  replace S := S.put (by decide : 9 < 21) (.int .u8 y_11)
  refine EndE.some_ rfl ?_
  rintro _ ⟨rfl, hF_136⟩
  replace S := S.put (by decide : 10 < 21) (.int .u8 (bitsI .and .u8 y_11 128))
  refine EndE.some_ rfl ?_
  intro v_139 hF_138; obtain rfl : v_139 = .bool ((bitsI .and .u8 y_11 128) != 0) := hF_138
  replace S := S.put (by decide : 11 < 21) (.bool ((bitsI .and .u8 y_11 128) != 0))
  refine EndE.some_ rfl ?_
  intro v_141 hF_140; replace hF_140 : RepV _ _ _ _ _ := hF_140
  replace S := S.put (by decide : 12 < 21) (v_141)
  refine EndE.some_ rfl ?_
  rintro _ ⟨p_144, rfl, R_145, H_146⟩
  replace S := S.put (by decide : 13 < 21) (.pointer (some p_144))
  refine EndE.some_ rfl ?_
  rintro _ ⟨rfl, hF_147⟩
  replace S := S.put (by decide : 14 < 21) (.int .u8 y_17)
  refine EndE.some_ rfl ?_
  intro v_150 hF_149; replace hF_149 : RepV _ _ _ _ _ := hF_149
  replace S := S.put (by decide : 15 < 21) (v_150)
  refine EndE.some_ rfl ?_
  rintro _ ⟨rfl, hF_151⟩
  replace S := S.put (by decide : 16 < 21) (.int .u16 t_23)
  refine EndE.some_ rfl ?_
  intro v_154 hF_153; replace hF_153 : RepV _ _ _ _ _ := hF_153
  replace S := S.put (by decide : 17 < 21) (v_154)
  refine EndE.some_ rfl ?_
  rintro _ ⟨p_157, rfl, R_158, H_159⟩
  replace S := S.put (by decide : 18 < 21) (.pointer (some p_157))
  refine EndE.some_ rfl ?_
  rintro _ ⟨rfl, hF_160⟩
  replace S := S.put (by decide : 19 < 21) (.int .u8 y_28)
  refine EndE.some_ rfl ?_
  intro v_163 hF_162; replace hF_162 : RepV _ _ _ _ _ := hF_162
  replace S := S.put (by decide : 20 < 21) (v_163)
  refine EndE.none_ rfl ?_; intro Bnew_; replace Bnew_ : Bx _ _ _ _ _ _ := Bnew_
  refine endE_nil S ?_; clear S; intro a S
  replace R0 := R0.lv (hR.lv _ _ hb_115)
  replace B_2 := Bnew_; clear Bnew_
  replace W := Sto.wd W hb_115 (by simp)
  refine then_n ?_
  replace S := S.sub (l' := [(2, .pointer (some (⟨b_1, 0, .none⟩ : Addr)))]) (by exact ⟨rfl, trivial⟩)
  refine wp_ret ?_
  obtain ⟨v_164, hr_165, R_166⟩ := res_cell (P := Try.prog) (T := 35) (t := (.st (.pair (.int .u8) (.pair .bool (.pair (.int .u8) (.pair (.int .u16) (.int .u8))))))) (x := (bitsI .andNot .u8 y_5 128, ((bitsI .and .u8 y_11 128) != 0), y_17, t_23, y_28)) S (s := 2) rfl ty35 B_2.at_
  obtain rfl := Option.some.inj h
  exact b_res1 S rfl hr_165 ⟨_, rfl, R_166.out, W.below⟩
theorem cb48 : callB Try.prog 48 = true := by kernel_rfl
def p47 (n : Nat) (x0 : Sl (Int)) (x1 : Int) : Option ((Int × Bool × Int × Int × Int) × (Int)) :=
  if ((lenI x0) != x1) then (some ((0, false, 0, 0, 0), 5)) else (p48 n x0).bind fun t_17 => (p23 n t_17).bind fun t_30 => (if (t_30.2 != 0) = false then (p55 n t_30.1 x0).bind fun t_38 => some (!t_38) else some true).bind fun q_37 => if q_37 then (some ((0, false, 0, 0, 0), 4)) else some (t_17, 0)
set_option maxHeartbeats 4000000 in
set_option maxRecDepth 100000 in
/-- plugboard/descriptors.decode[plugboard/descriptors.Endpoint] -/
theorem c47 (K : Nat → Prop) (n : Nat) (w : World) (x0 : Sl (Int)) (v0 : Value) (R0 : RepV (.sl (.int .u8)) w K v0 x0) (x1 : Int) (G1 : InR .i64 x1) {r : (Int × Bool × Int × Int × Int) × (Int)} (h : p47 n x0 x1 = some r) :
    Calls Try.prog 47 #[v0, .int .i64 x1, .func (.func 48) #[] #[], .func (.func 23) #[] #[]] w (Ret2 (.st (.pair (.int .u8) (.pair .bool (.pair (.int .u8) (.pair (.int .u16) (.int .u8)))))) (.int .i64) w (Kx K w.heap.size []) r) := by
  refine enter (args := [v0, .int .i64 x1, .func (.func 48) #[] #[], .func (.func 23) #[] #[]]) Try.func47 rfl 38 rfl rfl fun a S => ?_
  have W := Wd.start w
  replace R0 := R0.arg
  unfold p47 at h
  replace S : St 38 a [(0, v0), (1, .int .i64 x1), (2, .func (.func 48) #[] #[]), (3, .func (.func 23) #[] #[])] := S
  refine wp_seq ?_
  refine wp_region_lit ?_
  refine w_go S rfl (op_alloc (K := K) (n := w.heap.size) (L := []) (t := (.st (.pair (.int .u8) (.pair .bool (.pair (.int .u8) (.pair (.int .u16) (.int .u8))))))) (y := (0, false, 0, 0, 0)) S rfl rfl rfl _ z35 (fun w K => ⟨[.int .u8 0], [.bool false, .int .u8 0, .int .u16 0, .int .u8 0], rfl, ⟨rfl, by decide⟩, ⟨[.bool false], [.int .u8 0, .int .u16 0, .int .u8 0], rfl, rfl, ⟨[.int .u8 0], [.int .u16 0, .int .u8 0], rfl, ⟨rfl, by decide⟩, ⟨[.int .u16 0], [.int .u8 0], rfl, ⟨rfl, by decide⟩, ⟨rfl, by decide⟩⟩⟩⟩⟩) ?_)
  clear S; intro a w_3 b_1 hb_4 B_2 S
  replace R0 := R0.box hb_4
  replace W := W.box hb_4
  refine wl_pure (l' := [(9, .int .i64 0), (8, .pointer (some (⟨b_1, 0, .none⟩ : Addr))), (0, v0), (1, .int .i64 x1), (2, .func (.func 48) #[] #[]), (3, .func (.func 23) #[] #[])]) S tys tys_ok 1 (by kernel_rfl) ?_
  clear S; intro a S
  refine wpList_nil ?_
  refine then_n ?_
  replace S := S.sub (l' := [(8, .pointer (some (⟨b_1, 0, .none⟩ : Addr))), (0, v0), (1, .int .i64 x1), (2, .func (.func 48) #[] #[]), (3, .func (.func 23) #[] #[])]) (by exact ⟨rfl, rfl, rfl, rfl, rfl, trivial⟩)
  refine wp_seq ?_
  refine wp_region_lit ?_
  refine w_go S rfl (op_alloc (K := K) (n := w.heap.size) (L := [some b_1]) (t := (.st (.pair (.int .u8) (.pair .bool (.pair (.int .u8) (.pair (.int .u16) (.int .u8))))))) (y := (0, false, 0, 0, 0)) S rfl rfl rfl _ z35 (fun w K => ⟨[.int .u8 0], [.bool false, .int .u8 0, .int .u16 0, .int .u8 0], rfl, ⟨rfl, by decide⟩, ⟨[.bool false], [.int .u8 0, .int .u16 0, .int .u8 0], rfl, rfl, ⟨[.int .u8 0], [.int .u16 0, .int .u8 0], rfl, ⟨rfl, by decide⟩, ⟨[.int .u16 0], [.int .u8 0], rfl, ⟨rfl, by decide⟩, ⟨rfl, by decide⟩⟩⟩⟩⟩) ?_)
  clear S; intro a w_7 b_5 hb_8 B_6 S
  replace R0 := R0.box hb_8
  replace B_2 := B_2.box hb_8
  replace W := W.box hb_8
  refine wpList_nil ?_
  refine then_n ?_
  refine wp_seq ?_
  refine wp_seq ?_
  refine wp_region_lit ?_
  refine wl_pure (l' := [(14, v0), (10, .pointer (some (⟨b_5, 0, .none⟩ : Addr))), (8, .pointer (some (⟨b_1, 0, .none⟩ : Addr))), (0, v0), (1, .int .i64 x1), (2, .func (.func 48) #[] #[]), (3, .func (.func 23) #[] #[])]) S tys tys_ok 1 (by kernel_rfl) ?_
  clear S; intro a S
  refine w_go S rfl (op_len (K := _) S rfl ty23 rfl rfl rfl R0 ?_)
  clear S; intro a G_9 S
  refine wl_pure (l' := [(17, .bool ((lenI x0) != x1)), (16, .int .i64 x1), (15, .int .i64 (lenI x0)), (14, v0), (10, .pointer (some (⟨b_5, 0, .none⟩ : Addr))), (8, .pointer (some (⟨b_1, 0, .none⟩ : Addr))), (0, v0), (1, .int .i64 x1), (2, .func (.func 48) #[] #[]), (3, .func (.func 23) #[] #[])]) S tys tys_ok 2 (by kernel_rfl) ?_
  clear S; intro a S
  refine wpList_nil ?_
  refine then_n ?_
  replace S := S.sub (l' := [(17, .bool ((lenI x0) != x1)), (10, .pointer (some (⟨b_5, 0, .none⟩ : Addr))), (8, .pointer (some (⟨b_1, 0, .none⟩ : Addr))), (0, v0), (2, .func (.func 48) #[] #[]), (3, .func (.func 23) #[] #[])]) (by exact ⟨rfl, rfl, rfl, rfl, rfl, rfl, trivial⟩)
  refine wp_cond_split (S.eval (show ev _ _ = some (.bool ((lenI x0) != x1)) from rfl)) ?_ ?_
  · intro hc
    rw [if_pos hc] at h
    refine wp_seq ?_
    refine wp_region_lit ?_
    refine w_go S rfl (op_load (t := (.st (.pair (.int .u8) (.pair .bool (.pair (.int .u8) (.pair (.int .u16) (.int .u8))))))) (x := (0, false, 0, 0, 0)) S rfl ty35 rfl rfl rfl B_6.at_ ?_)
    clear S; intro a v_10 R_11 S
    refine w_go S rfl (op_store (t' := (.st (.pair (.int .u8) (.pair .bool (.pair (.int .u8) (.pair (.int .u16) (.int .u8))))))) S rfl rfl ty35 rfl rfl rfl B_2 (by simp) Ln.whole R_11 ?_)
    intro w_12 hw_13 B_
    replace R0 := R0.wrote hw_13 (by simp)
    replace R_11 := R_11.wrote hw_13 (by simp)
    replace B_6 := B_6.wrote hw_13 (by simp) (W.bne (p := 0) (q := 1) (by decide) rfl rfl)
    replace W := W.wrote hw_13 (by simp)
    replace B_2 : Bx (.st (.pair (.int .u8) (.pair .bool (.pair (.int .u8) (.pair (.int .u16) (.int .u8)))))) 35 w_12 (Kx K w.heap.size [some b_5, some b_1]) b_1 (0, false, 0, 0, 0) := B_; clear B_
    refine wl_pure (l' := [(9, .int .i64 5), (18, v_10), (17, .bool ((lenI x0) != x1)), (10, .pointer (some (⟨b_5, 0, .none⟩ : Addr))), (8, .pointer (some (⟨b_1, 0, .none⟩ : Addr))), (0, v0), (2, .func (.func 48) #[] #[]), (3, .func (.func 23) #[] #[])]) S tys tys_ok 1 (by kernel_rfl) ?_
    clear S; intro a S
    refine wpList_nil ?_
    refine then_n ?_
    replace S := S.sub (l' := [(9, .int .i64 5), (8, .pointer (some (⟨b_1, 0, .none⟩ : Addr)))]) (by exact ⟨rfl, rfl, trivial⟩)
    refine wp_ret ?_
    refine then_r ?_
    obtain ⟨v_14, hr_15, R_16⟩ := res_cell (P := Try.prog) (T := 35) (t := (.st (.pair (.int .u8) (.pair .bool (.pair (.int .u8) (.pair (.int .u16) (.int .u8))))))) (x := (0, false, 0, 0, 0)) S (s := 8) rfl ty35 B_2.at_
    obtain rfl := Option.some.inj h
    exact b_res2 S rfl hr_15 (res_tmp S rfl) ⟨_, _, rfl, R_16.out, (RepV.mkInt (by decide)), W.below⟩
  · intro hc
    rw [if_neg (Bool.eq_false_iff.1 hc)] at h
    refine wp_skip ?_
    refine then_n ?_
    replace S := S.sub (l' := [(10, .pointer (some (⟨b_5, 0, .none⟩ : Addr))), (8, .pointer (some (⟨b_1, 0, .none⟩ : Addr))), (0, v0), (2, .func (.func 48) #[] #[]), (3, .func (.func 23) #[] #[])]) (by exact ⟨rfl, rfl, rfl, rfl, rfl, trivial⟩)
    refine wp_seq ?_
    refine wp_region_lit ?_
    refine wl_pure (l' := [(20, v0), (19, .func (.func 48) #[] #[]), (10, .pointer (some (⟨b_5, 0, .none⟩ : Addr))), (8, .pointer (some (⟨b_1, 0, .none⟩ : Addr))), (0, v0), (2, .func (.func 48) #[] #[]), (3, .func (.func 23) #[] #[])]) S tys tys_ok 2 (by kernel_rfl) ?_
    clear S; intro a S
    obtain ⟨t_17, et_17, h⟩ := bindS h
    refine w_go S rfl (op_calld (vs := [v0]) S rfl rfl cb48 rfl rfl rfl (c48 (Kx K w.heap.size [some b_5, some b_1]) n w_7 x0 _ R0 et_17) ?_)
    rintro _ w_21 ⟨v_18, rfl, R_19, hb_20⟩; refine ⟨_, rfl, ?_⟩
    replace R_19 := RepV.back R_19 W
    clear S; intro a S
    replace R0 := R0.step hb_20
    replace B_2 := B_2.step hb_20
    replace B_6 := B_6.step hb_20
    replace W := W.step hb_20
    refine w_go S rfl (op_alloc (K := K) (n := w.heap.size) (L := [some b_5, some b_1]) (t := (.st (.pair (.int .u8) (.pair .bool (.pair (.int .u8) (.pair (.int .u16) (.int .u8))))))) (y := (0, false, 0, 0, 0)) S rfl rfl rfl _ z35 (fun w K => ⟨[.int .u8 0], [.bool false, .int .u8 0, .int .u16 0, .int .u8 0], rfl, ⟨rfl, by decide⟩, ⟨[.bool false], [.int .u8 0, .int .u16 0, .int .u8 0], rfl, rfl, ⟨[.int .u8 0], [.int .u16 0, .int .u8 0], rfl, ⟨rfl, by decide⟩, ⟨[.int .u16 0], [.int .u8 0], rfl, ⟨rfl, by decide⟩, ⟨rfl, by decide⟩⟩⟩⟩⟩) ?_)
    clear S; intro a w_24 b_22 hb_25 B_23 S
    replace R0 := R0.box hb_25
    replace R_19 := R_19.box hb_25
    replace B_2 := B_2.box hb_25
    replace B_6 := B_6.box hb_25
    replace W := W.box hb_25
    refine w_go S rfl (op_store (t' := (.st (.pair (.int .u8) (.pair .bool (.pair (.int .u8) (.pair (.int .u16) (.int .u8))))))) S rfl rfl ty35 rfl rfl rfl B_23 (by simp) Ln.whole R_19 ?_)
    intro w_26 hw_27 B_
    replace R0 := R0.wrote hw_27 (by simp)
    replace R_19 := R_19.wrote hw_27 (by simp)
    replace B_2 := B_2.wrote hw_27 (by simp) (W.bne (p := 2) (q := 0) (by decide) rfl rfl)
    replace B_6 := B_6.wrote hw_27 (by simp) (W.bne (p := 1) (q := 0) (by decide) rfl rfl)
    replace W := W.wrote hw_27 (by simp)
    replace B_23 : Bx (.st (.pair (.int .u8) (.pair .bool (.pair (.int .u8) (.pair (.int .u16) (.int .u8)))))) 35 w_26 (Kx K w.heap.size [some b_22, some b_5, some b_1]) b_22 t_17 := B_; clear B_
    refine wpList_nil ?_
    refine then_n ?_
    replace S := S.sub (l' := [(11, .pointer (some (⟨b_22, 0, .none⟩ : Addr))), (10, .pointer (some (⟨b_5, 0, .none⟩ : Addr))), (8, .pointer (some (⟨b_1, 0, .none⟩ : Addr))), (0, v0), (3, .func (.func 23) #[] #[])]) (by exact ⟨rfl, rfl, rfl, rfl, rfl, trivial⟩)
    refine wp_seq ?_
    refine wp_seq ?_
    refine wp_region_lit ?_
    refine wl_pure (l' := [(23, .func (.func 23) #[] #[]), (11, .pointer (some (⟨b_22, 0, .none⟩ : Addr))), (10, .pointer (some (⟨b_5, 0, .none⟩ : Addr))), (8, .pointer (some (⟨b_1, 0, .none⟩ : Addr))), (0, v0), (3, .func (.func 23) #[] #[])]) S tys tys_ok 1 (by kernel_rfl) ?_
    clear S; intro a S
    refine w_go S rfl (op_load (t := (.st (.pair (.int .u8) (.pair .bool (.pair (.int .u8) (.pair (.int .u16) (.int .u8))))))) (x := t_17) S rfl ty35 rfl rfl rfl B_23.at_ ?_)
    clear S; intro a v_28 R_29 S
    obtain ⟨t_30, et_30, h⟩ := bindS h
    refine w_go S rfl (op_calld (vs := [v_28]) S rfl rfl cb23 rfl rfl rfl (c23 (Kx K w.heap.size [some b_22, some b_5, some b_1]) n w_26 t_17 _ R_29 et_30) ?_)
    rintro _ w_36 ⟨v_31, v_32, rfl, R_33, R_34, hb_35⟩; refine ⟨_, rfl, ?_⟩
    replace R_33 := RepV.back R_33 W
    replace R_34 := RepV.back R_34 W
    clear S; intro a S
    replace R0 := R0.step hb_35
    replace R_29 := R_29.step hb_35
    replace B_2 := B_2.step hb_35
    replace B_6 := B_6.step hb_35
    replace B_23 := B_23.step hb_35
    replace W := W.step hb_35
    obtain ⟨rfl, GR_34⟩ := RepV.int R_34
    refine wl_pure (l' := [(13, .int .i64 t_30.2), (12, v_31), (27, .int .i64 t_30.2), (26, v_31), (22, .tuple #[v_31, .int .i64 t_30.2]), (25, .tuple #[v_31, .int .i64 t_30.2]), (24, v_28), (23, .func (.func 23) #[] #[]), (11, .pointer (some (⟨b_22, 0, .none⟩ : Addr))), (10, .pointer (some (⟨b_5, 0, .none⟩ : Addr))), (8, .pointer (some (⟨b_1, 0, .none⟩ : Addr))), (0, v0), (3, .func (.func 23) #[] #[])]) S tys tys_ok 5 (by kernel_rfl) ?_
    clear S; intro a S
    refine wpList_nil ?_
    refine then_n ?_
    replace S := S.sub (l' := [(13, .int .i64 t_30.2), (12, v_31), (11, .pointer (some (⟨b_22, 0, .none⟩ : Addr))), (10, .pointer (some (⟨b_5, 0, .none⟩ : Addr))), (8, .pointer (some (⟨b_1, 0, .none⟩ : Addr))), (0, v0)]) (by exact ⟨rfl, rfl, rfl, rfl, rfl, rfl, trivial⟩)
    refine wp_seq ?_
    refine wp_region_lit ?_
    refine wl_pure (l' := [(30, .bool (t_30.2 != 0)), (29, .bool (t_30.2 != 0)), (28, .int .i64 t_30.2), (13, .int .i64 t_30.2), (12, v_31), (11, .pointer (some (⟨b_22, 0, .none⟩ : Addr))), (10, .pointer (some (⟨b_5, 0, .none⟩ : Addr))), (8, .pointer (some (⟨b_1, 0, .none⟩ : Addr))), (0, v0)]) S tys tys_ok 3 (by kernel_rfl) ?_
    clear S; intro a S
    obtain ⟨q_37, eq_37, h⟩ := bindS h
    refine seg 5 (fun a_ w_ => St 38 a_ [(35, .bool q_37), (11, .pointer (some (⟨b_22, 0, .none⟩ : Addr))), (10, .pointer (some (⟨b_5, 0, .none⟩ : Addr))), (8, .pointer (some (⟨b_1, 0, .none⟩ : Addr)))] ∧ Wd w w_ [some b_22, some b_5, some b_1] ∧ Bx (.st (.pair (.int .u8) (.pair .bool (.pair (.int .u8) (.pair (.int .u16) (.int .u8)))))) 35 w_ (Kx K w.heap.size [some b_22, some b_5, some b_1]) b_1 (0, false, 0, 0, 0) ∧ Bx (.st (.pair (.int .u8) (.pair .bool (.pair (.int .u8) (.pair (.int .u16) (.int .u8)))))) 35 w_ (Kx K w.heap.size [some b_22, some b_5, some b_1]) b_5 (0, false, 0, 0, 0) ∧ Bx (.st (.pair (.int .u8) (.pair .bool (.pair (.int .u8) (.pair (.int .u16) (.int .u8)))))) 35 w_ (Kx K w.heap.size [some b_22, some b_5, some b_1]) b_22 t_17) ?_ ?_
    · by_cases hc : (t_30.2 != 0) = false
      · rw [if_pos hc] at eq_37; rw [hc] at S
        refine wl_pure (l' := [(32, v0), (31, v_31), (30, .bool false), (29, .bool false), (28, .int .i64 t_30.2), (13, .int .i64 t_30.2), (12, v_31), (11, .pointer (some (⟨b_22, 0, .none⟩ : Addr))), (10, .pointer (some (⟨b_5, 0, .none⟩ : Addr))), (8, .pointer (some (⟨b_1, 0, .none⟩ : Addr))), (0, v0)]) S tys tys_ok 2 (by kernel_rfl) ?_
        clear S; intro a S
        obtain ⟨t_38, et_38, eq_37⟩ := bindS eq_37
        refine w_go S rfl (op_call (vs := [v_31, v0]) S rfl cb55 rfl rfl rfl (c55 (Kx K w.heap.size [some b_22, some b_5, some b_1]) n w_36 t_30.1 _ R_33 x0 _ R0 et_38) ?_)
        rintro _ w_42 ⟨v_39, rfl, R_40, hb_41⟩; refine ⟨_, rfl, ?_⟩
        replace R_40 := RepV.back R_40 W
        clear S; intro a S
        replace R_33 := R_33.step hb_41
        replace R0 := R0.step hb_41
        replace B_2 := B_2.step hb_41
        replace B_6 := B_6.step hb_41
        replace B_23 := B_23.step hb_41
        replace W := W.step hb_41
        obtain rfl := RepV.bool R_40
        refine wl_pure (l' := [(35, .bool (!t_38)), (34, .bool (!t_38)), (33, .bool t_38), (32, v0), (31, v_31), (30, .bool false), (29, .bool false), (28, .int .i64 t_30.2), (13, .int .i64 t_30.2), (12, v_31), (11, .pointer (some (⟨b_22, 0, .none⟩ : Addr))), (10, .pointer (some (⟨b_5, 0, .none⟩ : Addr))), (8, .pointer (some (⟨b_1, 0, .none⟩ : Addr))), (0, v0)]) S tys tys_ok 2 (by kernel_rfl) ?_
        clear S; intro a S
        obtain rfl := Option.some.inj eq_37
        exact ⟨S.sub (by exact ⟨rfl, rfl, rfl, rfl, trivial⟩), W, B_2, B_6, B_23⟩
      · rw [if_neg hc] at eq_37; rw [show (t_30.2 != 0) = true from (by simpa using hc)] at S
        refine wl_pure (l' := [(35, .bool true), (34, undef), (33, undef), (32, undef), (31, undef), (30, .bool true), (29, .bool true), (28, .int .i64 t_30.2), (13, .int .i64 t_30.2), (12, v_31), (11, .pointer (some (⟨b_22, 0, .none⟩ : Addr))), (10, .pointer (some (⟨b_5, 0, .none⟩ : Addr))), (8, .pointer (some (⟨b_1, 0, .none⟩ : Addr))), (0, v0)]) S tys tys_ok 5 (by kernel_rfl) ?_
        clear S; intro a S
        obtain rfl := Option.some.inj eq_37
        exact ⟨S.sub (by exact ⟨rfl, rfl, rfl, rfl, trivial⟩), W, B_2, B_6, B_23⟩
    clear S W eq_37; rintro a w_43 ⟨S, W, B_2, B_6, B_23⟩
    refine wpList_nil ?_
    refine then_n ?_
    refine wp_cond_split (S.eval (show ev _ _ = some (.bool q_37) from rfl)) ?_ ?_
    · intro hc
      rw [if_pos hc] at h
      refine wp_seq ?_
      refine wp_region_lit ?_
      refine w_go S rfl (op_load (t := (.st (.pair (.int .u8) (.pair .bool (.pair (.int .u8) (.pair (.int .u16) (.int .u8))))))) (x := (0, false, 0, 0, 0)) S rfl ty35 rfl rfl rfl B_6.at_ ?_)
      clear S; intro a v_44 R_45 S
      refine w_go S rfl (op_store (t' := (.st (.pair (.int .u8) (.pair .bool (.pair (.int .u8) (.pair (.int .u16) (.int .u8))))))) S rfl rfl ty35 rfl rfl rfl B_2 (by simp) Ln.whole R_45 ?_)
      intro w_46 hw_47 B_
      replace R_45 := R_45.wrote hw_47 (by simp)
      replace B_6 := B_6.wrote hw_47 (by simp) (W.bne (p := 1) (q := 2) (by decide) rfl rfl)
      replace B_23 := B_23.wrote hw_47 (by simp) (W.bne (p := 0) (q := 2) (by decide) rfl rfl)
      replace W := W.wrote hw_47 (by simp)
      replace B_2 : Bx (.st (.pair (.int .u8) (.pair .bool (.pair (.int .u8) (.pair (.int .u16) (.int .u8)))))) 35 w_46 (Kx K w.heap.size [some b_22, some b_5, some b_1]) b_1 (0, false, 0, 0, 0) := B_; clear B_
      refine wl_pure (l' := [(9, .int .i64 4), (36, v_44), (35, .bool q_37), (11, .pointer (some (⟨b_22, 0, .none⟩ : Addr))), (10, .pointer (some (⟨b_5, 0, .none⟩ : Addr))), (8, .pointer (some (⟨b_1, 0, .none⟩ : Addr)))]) S tys tys_ok 1 (by kernel_rfl) ?_
      clear S; intro a S
      refine wpList_nil ?_
      refine then_n ?_
      replace S := S.sub (l' := [(9, .int .i64 4), (8, .pointer (some (⟨b_1, 0, .none⟩ : Addr)))]) (by exact ⟨rfl, rfl, trivial⟩)
      refine wp_ret ?_
      refine then_r ?_
      obtain ⟨v_48, hr_49, R_50⟩ := res_cell (P := Try.prog) (T := 35) (t := (.st (.pair (.int .u8) (.pair .bool (.pair (.int .u8) (.pair (.int .u16) (.int .u8))))))) (x := (0, false, 0, 0, 0)) S (s := 8) rfl ty35 B_2.at_
      obtain rfl := Option.some.inj h
      exact b_res2 S rfl hr_49 (res_tmp S rfl) ⟨_, _, rfl, R_50.out, (RepV.mkInt (by decide)), W.below⟩
    · intro hc
      rw [if_neg (Bool.eq_false_iff.1 hc)] at h
      refine wp_skip ?_
      refine then_n ?_
      replace S := S.sub (l' := [(11, .pointer (some (⟨b_22, 0, .none⟩ : Addr))), (8, .pointer (some (⟨b_1, 0, .none⟩ : Addr)))]) (by exact ⟨rfl, rfl, trivial⟩)
      refine wp_seq ?_
      refine wp_region_lit ?_
      refine w_go S rfl (op_load (t := (.st (.pair (.int .u8) (.pair .bool (.pair (.int .u8) (.pair (.int .u16) (.int .u8))))))) (x := t_17) S rfl ty35 rfl rfl rfl B_23.at_ ?_)
      clear S; intro a v_51 R_52 S
      refine w_go S rfl (op_store (t' := (.st (.pair (.int .u8) (.pair .bool (.pair (.int .u8) (.pair (.int .u16) (.int .u8))))))) S rfl rfl ty35 rfl rfl rfl B_2 (by simp) Ln.whole R_52 ?_)
      intro w_53 hw_54 B_
      replace R_52 := R_52.wrote hw_54 (by simp)
      replace B_6 := B_6.wrote hw_54 (by simp) (W.bne (p := 1) (q := 2) (by decide) rfl rfl)
      replace B_23 := B_23.wrote hw_54 (by simp) (W.bne (p := 0) (q := 2) (by decide) rfl rfl)
      replace W := W.wrote hw_54 (by simp)
      replace B_2 : Bx (.st (.pair (.int .u8) (.pair .bool (.pair (.int .u8) (.pair (.int .u16) (.int .u8)))))) 35 w_53 (Kx K w.heap.size [some b_22, some b_5, some b_1]) b_1 t_17 := B_; clear B_
      refine wl_pure (l' := [(9, .int .i64 0), (37, v_51), (11, .pointer (some (⟨b_22, 0, .none⟩ : Addr))), (8, .pointer (some (⟨b_1, 0, .none⟩ : Addr)))]) S tys tys_ok 1 (by kernel_rfl) ?_
      clear S; intro a S
      refine wpList_nil ?_
      refine then_n ?_
      replace S := S.sub (l' := [(9, .int .i64 0), (8, .pointer (some (⟨b_1, 0, .none⟩ : Addr)))]) (by exact ⟨rfl, rfl, trivial⟩)
      refine wp_ret ?_
      obtain ⟨v_55, hr_56, R_57⟩ := res_cell (P := Try.prog) (T := 35) (t := (.st (.pair (.int .u8) (.pair .bool (.pair (.int .u8) (.pair (.int .u16) (.int .u8))))))) (x := t_17) S (s := 8) rfl ty35 B_2.at_
      obtain rfl := Option.some.inj h
      exact b_res2 S rfl hr_56 (res_tmp S rfl) ⟨_, _, rfl, R_57.out, (RepV.mkInt (by decide)), W.below⟩
theorem cb47 : callB Try.prog 47 = true := by kernel_rfl
def p26 (n : Nat) (x0 : Sl (Int)) : Option ((Int × Bool × Int × Int × Int) × (Int)) :=
  (p47 n x0 7).bind fun t_5 =>
  some (t_5.1, t_5.2)
set_option maxHeartbeats 4000000 in
set_option maxRecDepth 100000 in
/-- plugboard/descriptors.DecodeEndpoint -/
theorem c26 (K : Nat → Prop) (n : Nat) (w : World) (x0 : Sl (Int)) (v0 : Value) (R0 : RepV (.sl (.int .u8)) w K v0 x0) {r : (Int × Bool × Int × Int × Int) × (Int)} (h : p26 n x0 = some r) :
    Calls Try.prog 26 #[v0] w (Ret2 (.st (.pair (.int .u8) (.pair .bool (.pair (.int .u8) (.pair (.int .u16) (.int .u8)))))) (.int .i64) w (Kx K w.heap.size []) r) := by
  refine enter (args := [v0]) Try.func26 rfl 8 rfl rfl fun a S => ?_
  have W := Wd.start w
  replace R0 := R0.arg
  unfold p26 at h
  replace S : St 8 a [(0, v0)] := S
  refine wp_seq ?_
  refine wp_region_lit ?_
  refine w_go S rfl (op_alloc (K := K) (n := w.heap.size) (L := []) (t := (.st (.pair (.int .u8) (.pair .bool (.pair (.int .u8) (.pair (.int .u16) (.int .u8))))))) (y := (0, false, 0, 0, 0)) S rfl rfl rfl _ z35 (fun w K => ⟨[.int .u8 0], [.bool false, .int .u8 0, .int .u16 0, .int .u8 0], rfl, ⟨rfl, by decide⟩, ⟨[.bool false], [.int .u8 0, .int .u16 0, .int .u8 0], rfl, rfl, ⟨[.int .u8 0], [.int .u16 0, .int .u8 0], rfl, ⟨rfl, by decide⟩, ⟨[.int .u16 0], [.int .u8 0], rfl, ⟨rfl, by decide⟩, ⟨rfl, by decide⟩⟩⟩⟩⟩) ?_)
  clear S; intro a w_3 b_1 hb_4 B_2 S
  replace R0 := R0.box hb_4
  replace W := W.box hb_4
  refine wl_pure (l' := [(3, .int .i64 0), (2, .pointer (some (⟨b_1, 0, .none⟩ : Addr))), (0, v0)]) S tys tys_ok 1 (by kernel_rfl) ?_
  clear S; intro a S
  refine wpList_nil ?_
  refine then_n ?_
  replace S := S.sub (l' := [(2, .pointer (some (⟨b_1, 0, .none⟩ : Addr))), (0, v0)]) (by exact ⟨rfl, rfl, trivial⟩)
  refine wp_seq ?_
  refine wp_region_lit ?_
  refine wl_pure (l' := [(4, v0), (2, .pointer (some (⟨b_1, 0, .none⟩ : Addr))), (0, v0)]) S tys tys_ok 1 (by kernel_rfl) ?_
  clear S; intro a S
  obtain ⟨t_5, et_5, h⟩ := bindS h
  refine w_go S rfl (op_call (vs := [v0, .int .i64 7, .func (.func 48) #[] #[], .func (.func 23) #[] #[]]) S rfl cb47 rfl rfl rfl (c47 (Kx K w.heap.size [some b_1]) n w_3 x0 _ R0 7 (by decide) et_5) ?_)
  rintro _ w_11 ⟨v_6, v_7, rfl, R_8, R_9, hb_10⟩; refine ⟨_, rfl, ?_⟩
  replace R_8 := RepV.back R_8 W
  replace R_9 := RepV.back R_9 W
  clear S; intro a S
  replace R0 := R0.step hb_10
  replace B_2 := B_2.step hb_10
  replace W := W.step hb_10
  obtain ⟨rfl, GR_9⟩ := RepV.int R_9
  refine wl_pure (l' := [(7, .int .i64 t_5.2), (6, v_6), (5, .tuple #[v_6, .int .i64 t_5.2]), (4, v0), (2, .pointer (some (⟨b_1, 0, .none⟩ : Addr))), (0, v0)]) S tys tys_ok 2 (by kernel_rfl) ?_
  clear S; intro a S
  refine w_go S rfl (op_store (t' := (.st (.pair (.int .u8) (.pair .bool (.pair (.int .u8) (.pair (.int .u16) (.int .u8))))))) S rfl rfl ty35 rfl rfl rfl B_2 (by simp) Ln.whole R_8 ?_)
  intro w_12 hw_13 B_
  replace R0 := R0.wrote hw_13 (by simp)
  replace R_8 := R_8.wrote hw_13 (by simp)
  replace W := W.wrote hw_13 (by simp)
  replace B_2 : Bx (.st (.pair (.int .u8) (.pair .bool (.pair (.int .u8) (.pair (.int .u16) (.int .u8)))))) 35 w_12 (Kx K w.heap.size [some b_1]) b_1 t_5.1 := B_; clear B_
  refine wl_pure (l' := [(3, .int .i64 t_5.2), (7, .int .i64 t_5.2), (6, v_6), (5, .tuple #[v_6, .int .i64 t_5.2]), (4, v0), (2, .pointer (some (⟨b_1, 0, .none⟩ : Addr))), (0, v0)]) S tys tys_ok 1 (by kernel_rfl) ?_
  clear S; intro a S
  refine wpList_nil ?_
  refine then_n ?_
  replace S := S.sub (l' := [(3, .int .i64 t_5.2), (2, .pointer (some (⟨b_1, 0, .none⟩ : Addr)))]) (by exact ⟨rfl, rfl, trivial⟩)
  refine wp_ret ?_
  obtain ⟨v_14, hr_15, R_16⟩ := res_cell (P := Try.prog) (T := 35) (t := (.st (.pair (.int .u8) (.pair .bool (.pair (.int .u8) (.pair (.int .u16) (.int .u8))))))) (x := t_5.1) S (s := 2) rfl ty35 B_2.at_
  obtain rfl := Option.some.inj h
  exact b_res2 S rfl hr_15 (res_tmp S rfl) ⟨_, _, rfl, R_16.out, (RepV.mkInt GR_9), W.below⟩
theorem cb26 : callB Try.prog 26 = true := by kernel_rfl

end Go.Proofs.Ytojifdijcanbpaa
