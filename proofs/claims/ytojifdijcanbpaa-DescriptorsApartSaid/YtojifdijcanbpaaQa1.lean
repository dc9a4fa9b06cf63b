/- x. -/
import Derived.Test.YtojifdijcanbpaaQd2
set_option linter.unusedVariables false
set_option linter.unusedSimpArgs false
namespace Go.Proofs.Ytojifdijcanbpaa
open Go.RowKit

def p17_l1 (n : Nat) (x0 : Int × Int × Int × Int × (List (Int))) : Nat → (Int) → (Int) → Option ((Int))
  | 0, _, _ => .none
  | m + 1, c_9, c_11 => (remI .u8 x0.2.1 4).bind fun x_24 => if (decide (c_9 < x_24)) then ((ckI .i64 (c_9 + 1)).bind fun x_25 => p17_l1 n x0 m x_25 (IntKind.wrap .u8 (c_11 * 2))) else some c_11
def p17 (n : Nat) (x0 : Int × Int × Int × Int × (List (Int))) : Option ((Int × Int × Int × Int × Int × Int × Int × Int × Int × Int × Int × Int)) :=
  (p17_l1 n x0 n 0 8).bind fun (y_17 : (Int)) =>
  (quoI .u8 x0.1 2).bind fun x_31 =>
  (remI .u8 x0.1 3).bind fun x_34 =>
  (idx x0.2.2.2.2 0).bind fun y_35 =>
  (idx x0.2.2.2.2 1).bind fun y_38 =>
  (idx x0.2.2.2.2 2).bind fun y_41 =>
  (remI .u8 x0.2.2.1 4).bind fun x_46 =>
  (quoI .u8 x0.2.2.1 4).bind fun x_49 =>
  (remI .u8 x_49 4).bind fun x_50 =>
  (quoI .u8 x0.2.2.1 16).bind fun x_53 =>
  (remI .u8 x_53 4).bind fun x_54 =>
  (remI .u8 x0.2.2.2.1 8).bind fun x_57 =>
  some (512, x0.1, x_31, x_34, y_17, y_35, y_38, y_41, x_46, x_50, x_54, IntKind.wrap .u8 (1 + x_57))
set_option maxHeartbeats 4000000 in
set_option maxRecDepth 100000 in
/-- (plugboard/plugboardlaw13.D).Of -/
theorem c17 (K : Nat → Prop) (n : Nat) (w : World) (x0 : Int × Int × Int × Int × (List (Int))) (v0 : Value) (R0 : RepV (.st (.pair (.int .u8) (.pair (.int .u8) (.pair (.int .u8) (.pair (.int .u8) (.arr 3 (.int .u16))))))) w K v0 x0) {r : (Int × Int × Int × Int × Int × Int × Int × Int × Int × Int × Int × Int)} (h : p17 n x0 = some r) :
    Calls Try.prog 17 #[v0] w (Ret1 (.st (.pair (.int .u16) (.pair (.int .u8) (.pair (.int .u8) (.pair (.int .u8) (.pair (.int .u8) (.pair (.int .u16) (.pair (.int .u16) (.pair (.int .u16) (.pair (.int .u8) (.pair (.int .u8) (.pair (.int .u8) (.int .u8))))))))))))) w (Kx K w.heap.size []) r) := by
  refine enter (args := [v0]) Try.func17 rfl 49 rfl rfl fun a S => ?_
  have W := Wd.start w
  replace R0 := R0.arg
  unfold p17 at h
  replace S : St 49 a [(0, v0)] := S
  refine wp_seq ?_
  refine wp_region_lit ?_
  refine w_go S rfl (op_box S rfl rfl rfl rfl rfl R0 ?_)
  clear S; intro a w_3 b_1 hb_4 B_2 S
  replace R0 := R0.box hb_4
  replace W := W.box hb_4
  refine w_go S rfl (op_alloc (K := K) (n := w.heap.size) (L := [some b_1]) (t := (.st (.pair (.int .u16) (.pair (.int .u8) (.pair (.int .u8) (.pair (.int .u8) (.pair (.int .u8) (.pair (.int .u16) (.pair (.int .u16) (.pair (.int .u16) (.pair (.int .u8) (.pair (.int .u8) (.pair (.int .u8) (.int .u8)))))))))))))) (y := (0, 0, 0, 0, 0, 0, 0, 0, 0, 0, 0, 0)) S rfl rfl rfl _ z47 (fun w K => ⟨[.int .u16 0], [.int .u8 0, .int .u8 0, .int .u8 0, .int .u8 0, .int .u16 0, .int .u16 0, .int .u16 0, .int .u8 0, .int .u8 0, .int .u8 0, .int .u8 0], rfl, ⟨rfl, by decide⟩, ⟨[.int .u8 0], [.int .u8 0, .int .u8 0, .int .u8 0, .int .u16 0, .int .u16 0, .int .u16 0, .int .u8 0, .int .u8 0, .int .u8 0, .int .u8 0], rfl, ⟨rfl, by decide⟩, ⟨[.int .u8 0], [.int .u8 0, .int .u8 0, .int .u16 0, .int .u16 0, .int .u16 0, .int .u8 0, .int .u8 0, .int .u8 0, .int .u8 0], rfl, ⟨rfl, by decide⟩, ⟨[.int .u8 0], [.int .u8 0, .int .u16 0, .int .u16 0, .int .u16 0, .int .u8 0, .int .u8 0, .int .u8 0, .int .u8 0], rfl, ⟨rfl, by decide⟩, ⟨[.int .u8 0], [.int .u16 0, .int .u16 0, .int .u16 0, .int .u8 0, .int .u8 0, .int .u8 0, .int .u8 0], rfl, ⟨rfl, by decide⟩, ⟨[.int .u16 0], [.int .u16 0, .int .u16 0, .int .u8 0, .int .u8 0, .int .u8 0, .int .u8 0], rfl, ⟨rfl, by decide⟩, ⟨[.int .u16 0], [.int .u16 0, .int .u8 0, .int .u8 0, .int .u8 0, .int .u8 0], rfl, ⟨rfl, by decide⟩, ⟨[.int .u16 0], [.int .u8 0, .int .u8 0, .int .u8 0, .int .u8 0], rfl, ⟨rfl, by decide⟩, ⟨[.int .u8 0], [.int .u8 0, .int .u8 0, .int .u8 0], rfl, ⟨rfl, by decide⟩, ⟨[.int .u8 0], [.int .u8 0, .int .u8 0], rfl, ⟨rfl, by decide⟩, ⟨[.int .u8 0], [.int .u8 0], rfl, ⟨rfl, by decide⟩, ⟨rfl, by decide⟩⟩⟩⟩⟩⟩⟩⟩⟩⟩⟩⟩) ?_)
  clear S; intro a w_7 b_5 hb_8 B_6 S
  replace R0 := R0.box hb_8
  replace B_2 := B_2.box hb_8
  replace W := W.box hb_8
  refine wpList_nil ?_
  refine then_n ?_
  replace S := S.sub (l' := [(2, .pointer (some (⟨b_5, 0, .none⟩ : Addr))), (1, .pointer (some (⟨b_1, 0, .none⟩ : Addr)))]) (by exact ⟨rfl, rfl, trivial⟩)
  refine wp_seq ?_
  refine wp_region_lit ?_
  refine wl_pure (l' := [(3, .int .u8 8), (2, .pointer (some (⟨b_5, 0, .none⟩ : Addr))), (1, .pointer (some (⟨b_1, 0, .none⟩ : Addr)))]) S tys tys_ok 1 (by kernel_rfl) ?_
  clear S; intro a S
  refine wpList_nil ?_
  refine then_n ?_
  refine wp_seq ?_
  refine wp_seq ?_
  refine wp_region_lit ?_
  refine wl_pure (l' := [(4, .int .i64 0), (3, .int .u8 8), (2, .pointer (some (⟨b_5, 0, .none⟩ : Addr))), (1, .pointer (some (⟨b_1, 0, .none⟩ : Addr)))]) S tys tys_ok 1 (by kernel_rfl) ?_
  clear S; intro a S
  refine wpList_nil ?_
  refine then_n ?_
  obtain ⟨y_17, ey_17, h⟩ := bindS h
  refine wp_cut_ (fun a_ w_ => St 49 a_ [(1, .pointer (some (⟨b_1, 0, .none⟩ : Addr))), (2, .pointer (some (⟨b_5, 0, .none⟩ : Addr))), (3, .int .u8 y_17)] ∧ Wd w w_ [some b_5, some b_1] ∧ InR .u8 y_17 ∧ Bx (.st (.pair (.int .u8) (.pair (.int .u8) (.pair (.int .u8) (.pair (.int .u8) (.arr 3 (.int .u16))))))) 43 w_ (Kx K w.heap.size [some b_5, some b_1]) b_1 x0 ∧ Bx (.st (.pair (.int .u16) (.pair (.int .u8) (.pair (.int .u8) (.pair (.int .u8) (.pair (.int .u8) (.pair (.int .u16) (.pair (.int .u16) (.pair (.int .u16) (.pair (.int .u8) (.pair (.int .u8) (.pair (.int .u8) (.int .u8))))))))))))) 47 w_ (Kx K w.heap.size [some b_5, some b_1]) b_5 (0, 0, 0, 0, 0, 0, 0, 0, 0, 0, 0, 0)) ?_ ?_
  · refine wp_block ?_
    refine wp_loop_n (fun m_ a_ w_ => ∃ (c_9 : Int) (c_11 : Int) , St 49 a_ [(4, .int .i64 c_9), (3, .int .u8 c_11), (2, .pointer (some (⟨b_5, 0, .none⟩ : Addr))), (1, .pointer (some (⟨b_1, 0, .none⟩ : Addr)))] ∧ Wd w w_ [some b_5, some b_1] ∧ InR .i64 c_9 ∧ InR .u8 c_11 ∧ Bx (.st (.pair (.int .u8) (.pair (.int .u8) (.pair (.int .u8) (.pair (.int .u8) (.arr 3 (.int .u16))))))) 43 w_ (Kx K w.heap.size [some b_5, some b_1]) b_1 x0 ∧ Bx (.st (.pair (.int .u16) (.pair (.int .u8) (.pair (.int .u8) (.pair (.int .u8) (.pair (.int .u8) (.pair (.int .u16) (.pair (.int .u16) (.pair (.int .u16) (.pair (.int .u8) (.pair (.int .u8) (.pair (.int .u8) (.int .u8))))))))))))) 47 w_ (Kx K w.heap.size [some b_5, some b_1]) b_5 (0, 0, 0, 0, 0, 0, 0, 0, 0, 0, 0, 0) ∧ p17_l1 n x0 m_ c_9 c_11 = some y_17) n ?_ ?_
    · skip
      exact ⟨0, 8, ⟨S.sub (by exact ⟨rfl, rfl, rfl, rfl, trivial⟩), W, (by decide), (by decide), B_2, B_6, ey_17⟩⟩
    · clear S W; rintro m_19 a w_21 ⟨c_9, c_11, S, W, G_10, G_12, B_2, B_6, hl_20⟩
      cases m_19 with
      | zero => exact absurd hl_20 (by simp [p17_l1])
      | succ m_19 =>
        refine ⟨m_19, rfl, ?_⟩
        rw [p17_l1] at hl_20
        refine wp_seq ?_
        refine wp_seq ?_
        refine wp_region_lit ?_
        refine wl_pure (l' := [(6, .pointer (some ((⟨b_1, 0, .none⟩ : Addr).add (coff (.pair (.int .u8) (.pair (.int .u8) (.pair (.int .u8) (.pair (.int .u8) (.arr 3 (.int .u16)))))) 1)))), (5, .int .i64 c_9), (4, .int .i64 c_9), (3, .int .u8 c_11), (2, .pointer (some (⟨b_5, 0, .none⟩ : Addr))), (1, .pointer (some (⟨b_1, 0, .none⟩ : Addr)))]) S tys tys_ok 2 (by kernel_rfl) ?_
        clear S; intro a S
        refine w_go S rfl (op_load (t := (.int .u8)) (x := x0.2.1) S rfl ty5 rfl rfl rfl (RepAt.add 1 (RepAt.st B_2.at_)) ?_)
        clear S; intro a v_22 R_23 S
        obtain ⟨rfl, GR_23⟩ := RepV.int R_23
        obtain ⟨x_24, ex_24, hl_20⟩ := bindS hl_20
        refine w_go S rfl (op_rem S .u8 rfl rfl rfl rfl rfl ex_24 ?_)
        clear S; intro a S
        refine w_go S rfl (op_conv S .i64 .bool .bool rfl ty5 ty3 rfl rfl rfl (widen (inR_rem ex_24) (by decide)).1 ?_)
        clear S; intro a S
        refine wl_pure (l' := [(10, .bool (decide (c_9 < x_24))), (9, .int .i64 x_24), (8, .int .u8 x_24), (7, .int .u8 x0.2.1), (6, .pointer (some ((⟨b_1, 0, .none⟩ : Addr).add (coff (.pair (.int .u8) (.pair (.int .u8) (.pair (.int .u8) (.pair (.int .u8) (.arr 3 (.int .u16)))))) 1)))), (5, .int .i64 c_9), (4, .int .i64 c_9), (3, .int .u8 c_11), (2, .pointer (some (⟨b_5, 0, .none⟩ : Addr))), (1, .pointer (some (⟨b_1, 0, .none⟩ : Addr)))]) S tys tys_ok 1 (by kernel_rfl) ?_
        clear S; intro a S
        refine wpList_nil ?_
        refine then_n ?_
        replace S := S.sub (l' := [(10, .bool (decide (c_9 < x_24))), (4, .int .i64 c_9), (3, .int .u8 c_11), (2, .pointer (some (⟨b_5, 0, .none⟩ : Addr))), (1, .pointer (some (⟨b_1, 0, .none⟩ : Addr)))]) (by exact ⟨rfl, rfl, rfl, rfl, rfl, trivial⟩)
        refine wp_cond_split (S.eval (show ev _ _ = some (.bool (decide (c_9 < x_24))) from rfl)) ?_ ?_
        · intro hc
          rw [if_pos hc] at hl_20
          refine wp_skip ?_
          refine then_n ?_
          replace S := S.sub (l' := [(4, .int .i64 c_9), (3, .int .u8 c_11), (2, .pointer (some (⟨b_5, 0, .none⟩ : Addr))), (1, .pointer (some (⟨b_1, 0, .none⟩ : Addr)))]) (by exact ⟨rfl, rfl, rfl, rfl, trivial⟩)
          refine wp_seq ?_
          refine wp_block ?_
          refine wp_region_lit ?_
          refine wl_pure (l' := [(3, .int .u8 (IntKind.wrap .u8 (c_11 * 2))), (14, .int .u8 (IntKind.wrap .u8 (c_11 * 2))), (13, .int .u8 c_11), (4, .int .i64 c_9), (3, .int .u8 c_11), (2, .pointer (some (⟨b_5, 0, .none⟩ : Addr))), (1, .pointer (some (⟨b_1, 0, .none⟩ : Addr)))]) S tys tys_ok 3 (by kernel_rfl) ?_
          clear S; intro a S
          refine wpList_nil ?_
          refine blk_n ?_
          refine then_n ?_
          replace S := S.sub (l' := [(3, .int .u8 (IntKind.wrap .u8 (c_11 * 2))), (4, .int .i64 c_9), (2, .pointer (some (⟨b_5, 0, .none⟩ : Addr))), (1, .pointer (some (⟨b_1, 0, .none⟩ : Addr)))]) (by exact ⟨rfl, rfl, rfl, rfl, trivial⟩)
          refine wp_region_lit ?_
          refine wl_pure (l' := [(11, .int .i64 c_9), (3, .int .u8 (IntKind.wrap .u8 (c_11 * 2))), (4, .int .i64 c_9), (2, .pointer (some (⟨b_5, 0, .none⟩ : Addr))), (1, .pointer (some (⟨b_1, 0, .none⟩ : Addr)))]) S tys tys_ok 1 (by kernel_rfl) ?_
          clear S; intro a S
          obtain ⟨x_25, ex_25, hl_20⟩ := bindS hl_20
          refine w_go S rfl (op_arith S .i64 (c_9 + 1) rfl (.inl rfl) rfl rfl rfl rfl ex_25 ?_)
          clear S; intro a S
          refine wl_pure (l' := [(4, .int .i64 x_25), (12, .int .i64 x_25), (11, .int .i64 c_9), (3, .int .u8 (IntKind.wrap .u8 (c_11 * 2))), (4, .int .i64 c_9), (2, .pointer (some (⟨b_5, 0, .none⟩ : Addr))), (1, .pointer (some (⟨b_1, 0, .none⟩ : Addr)))]) S tys tys_ok 1 (by kernel_rfl) ?_
          clear S; intro a S
          refine wpList_nil ?_
          refine then_n ?_
          exact ⟨x_25, IntKind.wrap .u8 (c_11 * 2), ⟨S.sub (by exact ⟨rfl, rfl, rfl, rfl, trivial⟩), W, (ckI_some ex_25).2.1, (inR_wrap _ _), B_2, B_6, hl_20⟩⟩
        · intro hc
          rw [if_neg (Bool.eq_false_iff.1 hc)] at hl_20
          refine wp_exit ?_
          refine then_x ?_
          refine then_x ?_
          refine blk_hit ?_
          refine then_n ?_
          obtain rfl := Option.some.inj hl_20
          exact ⟨S.sub (by exact ⟨rfl, rfl, rfl, trivial⟩), W, G_12, B_2, B_6⟩
  clear S W; rintro a w_26 ⟨S, W, G_18, B_2, B_6⟩
  refine then_n ?_
  refine wp_seq ?_
  refine wp_region_lit ?_
  refine wl_pure (l' := [(15, .pointer (some ((⟨b_1, 0, .none⟩ : Addr).add (coff (.pair (.int .u8) (.pair (.int .u8) (.pair (.int .u8) (.pair (.int .u8) (.arr 3 (.int .u16)))))) 0)))), (1, .pointer (some (⟨b_1, 0, .none⟩ : Addr))), (2, .pointer (some (⟨b_5, 0, .none⟩ : Addr))), (3, .int .u8 y_17)]) S tys tys_ok 1 (by kernel_rfl) ?_
  clear S; intro a S
  refine w_go S rfl (op_load (t := (.int .u8)) (x := x0.1) S rfl ty5 rfl rfl rfl (RepAt.add 0 (RepAt.st B_2.at_)) ?_)
  clear S; intro a v_27 R_28 S
  obtain ⟨rfl, GR_28⟩ := RepV.int R_28
  refine wl_pure (l' := [(17, .pointer (some ((⟨b_1, 0, .none⟩ : Addr).add (coff (.pair (.int .u8) (.pair (.int .u8) (.pair (.int .u8) (.pair (.int .u8) (.arr 3 (.int .u16)))))) 0)))), (16, .int .u8 x0.1), (15, .pointer (some ((⟨b_1, 0, .none⟩ : Addr).add (coff (.pair (.int .u8) (.pair (.int .u8) (.pair (.int .u8) (.pair (.int .u8) (.arr 3 (.int .u16)))))) 0)))), (1, .pointer (some (⟨b_1, 0, .none⟩ : Addr))), (2, .pointer (some (⟨b_5, 0, .none⟩ : Addr))), (3, .int .u8 y_17)]) S tys tys_ok 1 (by kernel_rfl) ?_
  clear S; intro a S
  refine w_go S rfl (op_load (t := (.int .u8)) (x := x0.1) S rfl ty5 rfl rfl rfl (RepAt.add 0 (RepAt.st B_2.at_)) ?_)
  clear S; intro a v_29 R_30 S
  obtain ⟨rfl, GR_30⟩ := RepV.int R_30
  obtain ⟨x_31, ex_31, h⟩ := bindS h
  refine w_go S rfl (op_quo S .u8 rfl rfl rfl rfl rfl ex_31 ?_)
  clear S; intro a S
  refine wl_pure (l' := [(20, .pointer (some ((⟨b_1, 0, .none⟩ : Addr).add (coff (.pair (.int .u8) (.pair (.int .u8) (.pair (.int .u8) (.pair (.int .u8) (.arr 3 (.int .u16)))))) 0)))), (19, .int .u8 x_31), (18, .int .u8 x0.1), (17, .pointer (some ((⟨b_1, 0, .none⟩ : Addr).add (coff (.pair (.int .u8) (.pair (.int .u8) (.pair (.int .u8) (.pair (.int .u8) (.arr 3 (.int .u16)))))) 0)))), (16, .int .u8 x0.1), (15, .pointer (some ((⟨b_1, 0, .none⟩ : Addr).add (coff (.pair (.int .u8) (.pair (.int .u8) (.pair (.int .u8) (.pair (.int .u8) (.arr 3 (.int .u16)))))) 0)))), (1, .pointer (some (⟨b_1, 0, .none⟩ : Addr))), (2, .pointer (some (⟨b_5, 0, .none⟩ : Addr))), (3, .int .u8 y_17)]) S tys tys_ok 1 (by kernel_rfl) ?_
  clear S; intro a S
  refine w_go S rfl (op_load (t := (.int .u8)) (x := x0.1) S rfl ty5 rfl rfl rfl (RepAt.add 0 (RepAt.st B_2.at_)) ?_)
  clear S; intro a v_32 R_33 S
  obtain ⟨rfl, GR_33⟩ := RepV.int R_33
  obtain ⟨x_34, ex_34, h⟩ := bindS h
  refine w_go S rfl (op_rem S .u8 rfl rfl rfl rfl rfl ex_34 ?_)
  clear S; intro a S
  refine wl_pure (l' := [(24, .pointer (some ((⟨b_1, 0, .none⟩ : Addr).add (coff (.pair (.int .u8) (.pair (.int .u8) (.pair (.int .u8) (.pair (.int .u8) (.arr 3 (.int .u16)))))) 4)))), (23, .int .u8 y_17), (22, .int .u8 x_34), (21, .int .u8 x0.1), (20, .pointer (some ((⟨b_1, 0, .none⟩ : Addr).add (coff (.pair (.int .u8) (.pair (.int .u8) (.pair (.int .u8) (.pair (.int .u8) (.arr 3 (.int .u16)))))) 0)))), (19, .int .u8 x_31), (18, .int .u8 x0.1), (17, .pointer (some ((⟨b_1, 0, .none⟩ : Addr).add (coff (.pair (.int .u8) (.pair (.int .u8) (.pair (.int .u8) (.pair (.int .u8) (.arr 3 (.int .u16)))))) 0)))), (16, .int .u8 x0.1), (15, .pointer (some ((⟨b_1, 0, .none⟩ : Addr).add (coff (.pair (.int .u8) (.pair (.int .u8) (.pair (.int .u8) (.pair (.int .u8) (.arr 3 (.int .u16)))))) 0)))), (1, .pointer (some (⟨b_1, 0, .none⟩ : Addr))), (2, .pointer (some (⟨b_5, 0, .none⟩ : Addr))), (3, .int .u8 y_17)]) S tys tys_ok 2 (by kernel_rfl) ?_
  clear S; intro a S
  obtain ⟨y_35, ey_35, h⟩ := bindS h
  refine w_go S rfl (op_indexAddr_arr S rfl ty41 rfl rfl rfl (RepAt.add 4 (RepAt.st B_2.at_)) rfl ey_35 ?_)
  clear S; intro a S
  refine w_go S rfl (op_load (t := (.int .u16)) (x := y_35) S rfl ty33 rfl rfl rfl (RepAt.ix (RepAt.add 4 (RepAt.st B_2.at_)) ey_35) ?_)
  clear S; intro a v_36 R_37 S
  obtain ⟨rfl, GR_37⟩ := RepV.int R_37
  refine wl_pure (l' := [(27, .pointer (some ((⟨b_1, 0, .none⟩ : Addr).add (coff (.pair (.int .u8) (.pair (.int .u8) (.pair (.int .u8) (.pair (.int .u8) (.arr 3 (.int .u16)))))) 4)))), (26, .int .u16 y_35), (25, .pointer (some (((⟨b_1, 0, .none⟩ : Addr).add (coff (.pair (.int .u8) (.pair (.int .u8) (.pair (.int .u8) (.pair (.int .u8) (.arr 3 (.int .u16)))))) 4)).add ((0 : Int).toNat * GT.sz (.int .u16))))), (24, .pointer (some ((⟨b_1, 0, .none⟩ : Addr).add (coff (.pair (.int .u8) (.pair (.int .u8) (.pair (.int .u8) (.pair (.int .u8) (.arr 3 (.int .u16)))))) 4)))), (23, .int .u8 y_17), (22, .int .u8 x_34), (21, .int .u8 x0.1), (20, .pointer (some ((⟨b_1, 0, .none⟩ : Addr).add (coff (.pair (.int .u8) (.pair (.int .u8) (.pair (.int .u8) (.pair (.int .u8) (.arr 3 (.int .u16)))))) 0)))), (19, .int .u8 x_31), (18, .int .u8 x0.1), (17, .pointer (some ((⟨b_1, 0, .none⟩ : Addr).add (coff (.pair (.int .u8) (.pair (.int .u8) (.pair (.int .u8) (.pair (.int .u8) (.arr 3 (.int .u16)))))) 0)))), (16, .int .u8 x0.1), (15, .pointer (some ((⟨b_1, 0, .none⟩ : Addr).add (coff (.pair (.int .u8) (.pair (.int .u8) (.pair (.int .u8) (.pair (.int .u8) (.arr 3 (.int .u16)))))) 0)))), (1, .pointer (some (⟨b_1, 0, .none⟩ : Addr))), (2, .pointer (some (⟨b_5, 0, .none⟩ : Addr))), (3, .int .u8 y_17)]) S tys tys_ok 1 (by kernel_rfl) ?_
  clear S; intro a S
  obtain ⟨y_38, ey_38, h⟩ := bindS h
  refine w_go S rfl (op_indexAddr_arr S rfl ty41 rfl rfl rfl (RepAt.add 4 (RepAt.st B_2.at_)) rfl ey_38 ?_)
  clear S; intro a S
  refine w_go S rfl (op_load (t := (.int .u16)) (x := y_38) S rfl ty33 rfl rfl rfl (RepAt.ix (RepAt.add 4 (RepAt.st B_2.at_)) ey_38) ?_)
  clear S; intro a v_39 R_40 S
  obtain ⟨rfl, GR_40⟩ := RepV.int R_40
  refine wl_pure (l' := [(30, .pointer (some ((⟨b_1, 0, .none⟩ : Addr).add (coff (.pair (.int .u8) (.pair (.int .u8) (.pair (.int .u8) (.pair (.int .u8) (.arr 3 (.int .u16)))))) 4)))), (29, .int .u16 y_38), (28, .pointer (some (((⟨b_1, 0, .none⟩ : Addr).add (coff (.pair (.int .u8) (.pair (.int .u8) (.pair (.int .u8) (.pair (.int .u8) (.arr 3 (.int .u16)))))) 4)).add ((1 : Int).toNat * GT.sz (.int .u16))))), (27, .pointer (some ((⟨b_1, 0, .none⟩ : Addr).add (coff (.pair (.int .u8) (.pair (.int .u8) (.pair (.int .u8) (.pair (.int .u8) (.arr 3 (.int .u16)))))) 4)))), (26, .int .u16 y_35), (25, .pointer (some (((⟨b_1, 0, .none⟩ : Addr).add (coff (.pair (.int .u8) (.pair (.int .u8) (.pair (.int .u8) (.pair (.int .u8) (.arr 3 (.int .u16)))))) 4)).add ((0 : Int).toNat * GT.sz (.int .u16))))), (24, .pointer (some ((⟨b_1, 0, .none⟩ : Addr).add (coff (.pair (.int .u8) (.pair (.int .u8) (.pair (.int .u8) (.pair (.int .u8) (.arr 3 (.int .u16)))))) 4)))), (23, .int .u8 y_17), (22, .int .u8 x_34), (21, .int .u8 x0.1), (20, .pointer (some ((⟨b_1, 0, .none⟩ : Addr).add (coff (.pair (.int .u8) (.pair (.int .u8) (.pair (.int .u8) (.pair (.int .u8) (.arr 3 (.int .u16)))))) 0)))), (19, .int .u8 x_31), (18, .int .u8 x0.1), (17, .pointer (some ((⟨b_1, 0, .none⟩ : Addr).add (coff (.pair (.int .u8) (.pair (.int .u8) (.pair (.int .u8) (.pair (.int .u8) (.arr 3 (.int .u16)))))) 0)))), (16, .int .u8 x0.1), (15, .pointer (some ((⟨b_1, 0, .none⟩ : Addr).add (coff (.pair (.int .u8) (.pair (.int .u8) (.pair (.int .u8) (.pair (.int .u8) (.arr 3 (.int .u16)))))) 0)))), (1, .pointer (some (⟨b_1, 0, .none⟩ : Addr))), (2, .pointer (some (⟨b_5, 0, .none⟩ : Addr))), (3, .int .u8 y_17)]) S tys tys_ok 1 (by kernel_rfl) ?_
  clear S; intro a S
  obtain ⟨y_41, ey_41, h⟩ := bindS h
  refine w_go S rfl (op_indexAddr_arr S rfl ty41 rfl rfl rfl (RepAt.add 4 (RepAt.st B_2.at_)) rfl ey_41 ?_)
  clear S; intro a S
  refine w_go S rfl (op_load (t := (.int .u16)) (x := y_41) S rfl ty33 rfl rfl rfl (RepAt.ix (RepAt.add 4 (RepAt.st B_2.at_)) ey_41) ?_)
  clear S; intro a v_42 R_43 S
  obtain ⟨rfl, GR_43⟩ := RepV.int R_43
  refine wl_pure (l' := [(33, .pointer (some ((⟨b_1, 0, .none⟩ : Addr).add (coff (.pair (.int .u8) (.pair (.int .u8) (.pair (.int .u8) (.pair (.int .u8) (.arr 3 (.int .u16)))))) 2)))), (32, .int .u16 y_41), (31, .pointer (some (((⟨b_1, 0, .none⟩ : Addr).add (coff (.pair (.int .u8) (.pair (.int .u8) (.pair (.int .u8) (.pair (.int .u8) (.arr 3 (.int .u16)))))) 4)).add ((2 : Int).toNat * GT.sz (.int .u16))))), (30, .pointer (some ((⟨b_1, 0, .none⟩ : Addr).add (coff (.pair (.int .u8) (.pair (.int .u8) (.pair (.int .u8) (.pair (.int .u8) (.arr 3 (.int .u16)))))) 4)))), (29, .int .u16 y_38), (28, .pointer (some (((⟨b_1, 0, .none⟩ : Addr).add (coff (.pair (.int .u8) (.pair (.int .u8) (.pair (.int .u8) (.pair (.int .u8) (.arr 3 (.int .u16)))))) 4)).add ((1 : Int).toNat * GT.sz (.int .u16))))), (27, .pointer (some ((⟨b_1, 0, .none⟩ : Addr).add (coff (.pair (.int .u8) (.pair (.int .u8) (.pair (.int .u8) (.pair (.int .u8) (.arr 3 (.int .u16)))))) 4)))), (26, .int .u16 y_35), (25, .pointer (some (((⟨b_1, 0, .none⟩ : Addr).add (coff (.pair (.int .u8) (.pair (.int .u8) (.pair (.int .u8) (.pair (.int .u8) (.arr 3 (.int .u16)))))) 4)).add ((0 : Int).toNat * GT.sz (.int .u16))))), (24, .pointer (some ((⟨b_1, 0, .none⟩ : Addr).add (coff (.pair (.int .u8) (.pair (.int .u8) (.pair (.int .u8) (.pair (.int .u8) (.arr 3 (.int .u16)))))) 4)))), (23, .int .u8 y_17), (22, .int .u8 x_34), (21, .int .u8 x0.1), (20, .pointer (some ((⟨b_1, 0, .none⟩ : Addr).add (coff (.pair (.int .u8) (.pair (.int .u8) (.pair (.int .u8) (.pair (.int .u8) (.arr 3 (.int .u16)))))) 0)))), (19, .int .u8 x_31), (18, .int .u8 x0.1), (17, .pointer (some ((⟨b_1, 0, .none⟩ : Addr).add (coff (.pair (.int .u8) (.pair (.int .u8) (.pair (.int .u8) (.pair (.int .u8) (.arr 3 (.int .u16)))))) 0)))), (16, .int .u8 x0.1), (15, .pointer (some ((⟨b_1, 0, .none⟩ : Addr).add (coff (.pair (.int .u8) (.pair (.int .u8) (.pair (.int .u8) (.pair (.int .u8) (.arr 3 (.int .u16)))))) 0)))), (1, .pointer (some (⟨b_1, 0, .none⟩ : Addr))), (2, .pointer (some (⟨b_5, 0, .none⟩ : Addr))), (3, .int .u8 y_17)]) S tys tys_ok 1 (by kernel_rfl) ?_
  clear S; intro a S
  refine w_go S rfl (op_load (t := (.int .u8)) (x := x0.2.2.1) S rfl ty5 rfl rfl rfl (RepAt.add 2 (RepAt.st B_2.at_)) ?_)
  clear S; intro a v_44 R_45 S
  obtain ⟨rfl, GR_45⟩ := RepV.int R_45
  obtain ⟨x_46, ex_46, h⟩ := bindS h
  refine w_go S rfl (op_rem S .u8 rfl rfl rfl rfl rfl ex_46 ?_)
  clear S; intro a S
  refine wl_pure (l' := [(36, .pointer (some ((⟨b_1, 0, .none⟩ : Addr).add (coff (.pair (.int .u8) (.pair (.int .u8) (.pair (.int .u8) (.pair (.int .u8) (.arr 3 (.int .u16)))))) 2)))), (35, .int .u8 x_46), (34, .int .u8 x0.2.2.1), (33, .pointer (some ((⟨b_1, 0, .none⟩ : Addr).add (coff (.pair (.int .u8) (.pair (.int .u8) (.pair (.int .u8) (.pair (.int .u8) (.arr 3 (.int .u16)))))) 2)))), (32, .int .u16 y_41), (31, .pointer (some (((⟨b_1, 0, .none⟩ : Addr).add (coff (.pair (.int .u8) (.pair (.int .u8) (.pair (.int .u8) (.pair (.int .u8) (.arr 3 (.int .u16)))))) 4)).add ((2 : Int).toNat * GT.sz (.int .u16))))), (30, .pointer (some ((⟨b_1, 0, .none⟩ : Addr).add (coff (.pair (.int .u8) (.pair (.int .u8) (.pair (.int .u8) (.pair (.int .u8) (.arr 3 (.int .u16)))))) 4)))), (29, .int .u16 y_38), (28, .pointer (some (((⟨b_1, 0, .none⟩ : Addr).add (coff (.pair (.int .u8) (.pair (.int .u8) (.pair (.int .u8) (.pair (.int .u8) (.arr 3 (.int .u16)))))) 4)).add ((1 : Int).toNat * GT.sz (.int .u16))))), (27, .pointer (some ((⟨b_1, 0, .none⟩ : Addr).add (coff (.pair (.int .u8) (.pair (.int .u8) (.pair (.int .u8) (.pair (.int .u8) (.arr 3 (.int .u16)))))) 4)))), (26, .int .u16 y_35), (25, .pointer (some (((⟨b_1, 0, .none⟩ : Addr).add (coff (.pair (.int .u8) (.pair (.int .u8) (.pair (.int .u8) (.pair (.int .u8) (.arr 3 (.int .u16)))))) 4)).add ((0 : Int).toNat * GT.sz (.int .u16))))), (24, .pointer (some ((⟨b_1, 0, .none⟩ : Addr).add (coff (.pair (.int .u8) (.pair (.int .u8) (.pair (.int .u8) (.pair (.int .u8) (.arr 3 (.int .u16)))))) 4)))), (23, .int .u8 y_17), (22, .int .u8 x_34), (21, .int .u8 x0.1), (20, .pointer (some ((⟨b_1, 0, .none⟩ : Addr).add (coff (.pair (.int .u8) (.pair (.int .u8) (.pair (.int .u8) (.pair (.int .u8) (.arr 3 (.int .u16)))))) 0)))), (19, .int .u8 x_31), (18, .int .u8 x0.1), (17, .pointer (some ((⟨b_1, 0, .none⟩ : Addr).add (coff (.pair (.int .u8) (.pair (.int .u8) (.pair (.int .u8) (.pair (.int .u8) (.arr 3 (.int .u16)))))) 0)))), (16, .int .u8 x0.1), (15, .pointer (some ((⟨b_1, 0, .none⟩ : Addr).add (coff (.pair (.int .u8) (.pair (.int .u8) (.pair (.int .u8) (.pair (.int .u8) (.arr 3 (.int .u16)))))) 0)))), (1, .pointer (some (⟨b_1, 0, .none⟩ : Addr))), (2, .pointer (some (⟨b_5, 0, .none⟩ : Addr))), (3, .int .u8 y_17)]) S tys tys_ok 1 (by kernel_rfl) ?_
  clear S; intro a S
  refine w_go S rfl (op_load (t := (.int .u8)) (x := x0.2.2.1) S rfl ty5 rfl rfl rfl (RepAt.add 2 (RepAt.st B_2.at_)) ?_)
  clear S; intro a v_47 R_48 S
  obtain ⟨rfl, GR_48⟩ := RepV.int R_48
  obtain ⟨x_49, ex_49, h⟩ := bindS h
  refine w_go S rfl (op_quo S .u8 rfl rfl rfl rfl rfl ex_49 ?_)
  clear S; intro a S
  obtain ⟨x_50, ex_50, h⟩ := bindS h
  refine w_go S rfl (op_rem S .u8 rfl rfl rfl rfl rfl ex_50 ?_)
  clear S; intro a S
  refine wl_pure (l' := [(40, .pointer (some ((⟨b_1, 0, .none⟩ : Addr).add (coff (.pair (.int .u8) (.pair (.int .u8) (.pair (.int .u8) (.pair (.int .u8) (.arr 3 (.int .u16)))))) 2)))), (39, .int .u8 x_50), (38, .int .u8 x_49), (37, .int .u8 x0.2.2.1), (36, .pointer (some ((⟨b_1, 0, .none⟩ : Addr).add (coff (.pair (.int .u8) (.pair (.int .u8) (.pair (.int .u8) (.pair (.int .u8) (.arr 3 (.int .u16)))))) 2)))), (35, .int .u8 x_46), (34, .int .u8 x0.2.2.1), (33, .pointer (some ((⟨b_1, 0, .none⟩ : Addr).add (coff (.pair (.int .u8) (.pair (.int .u8) (.pair (.int .u8) (.pair (.int .u8) (.arr 3 (.int .u16)))))) 2)))), (32, .int .u16 y_41), (31, .pointer (some (((⟨b_1, 0, .none⟩ : Addr).add (coff (.pair (.int .u8) (.pair (.int .u8) (.pair (.int .u8) (.pair (.int .u8) (.arr 3 (.int .u16)))))) 4)).add ((2 : Int).toNat * GT.sz (.int .u16))))), (30, .pointer (some ((⟨b_1, 0, .none⟩ : Addr).add (coff (.pair (.int .u8) (.pair (.int .u8) (.pair (.int .u8) (.pair (.int .u8) (.arr 3 (.int .u16)))))) 4)))), (29, .int .u16 y_38), (28, .pointer (some (((⟨b_1, 0, .none⟩ : Addr).add (coff (.pair (.int .u8) (.pair (.int .u8) (.pair (.int .u8) (.pair (.int .u8) (.arr 3 (.int .u16)))))) 4)).add ((1 : Int).toNat * GT.sz (.int .u16))))), (27, .pointer (some ((⟨b_1, 0, .none⟩ : Addr).add (coff (.pair (.int .u8) (.pair (.int .u8) (.pair (.int .u8) (.pair (.int .u8) (.arr 3 (.int .u16)))))) 4)))), (26, .int .u16 y_35), (25, .pointer (some (((⟨b_1, 0, .none⟩ : Addr).add (coff (.pair (.int .u8) (.pair (.int .u8) (.pair (.int .u8) (.pair (.int .u8) (.arr 3 (.int .u16)))))) 4)).add ((0 : Int).toNat * GT.sz (.int .u16))))), (24, .pointer (some ((⟨b_1, 0, .none⟩ : Addr).add (coff (.pair (.int .u8) (.pair (.int .u8) (.pair (.int .u8) (.pair (.int .u8) (.arr 3 (.int .u16)))))) 4)))), (23, .int .u8 y_17), (22, .int .u8 x_34), (21, .int .u8 x0.1), (20, .pointer (some ((⟨b_1, 0, .none⟩ : Addr).add (coff (.pair (.int .u8) (.pair (.int .u8) (.pair (.int .u8) (.pair (.int .u8) (.arr 3 (.int .u16)))))) 0)))), (19, .int .u8 x_31), (18, .int .u8 x0.1), (17, .pointer (some ((⟨b_1, 0, .none⟩ : Addr).add (coff (.pair (.int .u8) (.pair (.int .u8) (.pair (.int .u8) (.pair (.int .u8) (.arr 3 (.int .u16)))))) 0)))), (16, .int .u8 x0.1), (15, .pointer (some ((⟨b_1, 0, .none⟩ : Addr).add (coff (.pair (.int .u8) (.pair (.int .u8) (.pair (.int .u8) (.pair (.int .u8) (.arr 3 (.int .u16)))))) 0)))), (1, .pointer (some (⟨b_1, 0, .none⟩ : Addr))), (2, .pointer (some (⟨b_5, 0, .none⟩ : Addr))), (3, .int .u8 y_17)]) S tys tys_ok 1 (by kernel_rfl) ?_
  clear S; intro a S
  refine w_go S rfl (op_load (t := (.int .u8)) (x := x0.2.2.1) S rfl ty5 rfl rfl rfl (RepAt.add 2 (RepAt.st B_2.at_)) ?_)
  clear S; intro a v_51 R_52 S
  obtain ⟨rfl, GR_52⟩ := RepV.int R_52
  obtain ⟨x_53, ex_53, h⟩ := bindS h
  refine w_go S rfl (op_quo S .u8 rfl rfl rfl rfl rfl ex_53 ?_)
  clear S; intro a S
  obtain ⟨x_54, ex_54, h⟩ := bindS h
  refine w_go S rfl (op_rem S .u8 rfl rfl rfl rfl rfl ex_54 ?_)
  clear S; intro a S
  refine wl_pure (l' := [(44, .pointer (some ((⟨b_1, 0, .none⟩ : Addr).add (coff (.pair (.int .u8) (.pair (.int .u8) (.pair (.int .u8) (.pair (.int .u8) (.arr 3 (.int .u16)))))) 3)))), (43, .int .u8 x_54), (42, .int .u8 x_53), (41, .int .u8 x0.2.2.1), (40, .pointer (some ((⟨b_1, 0, .none⟩ : Addr).add (coff (.pair (.int .u8) (.pair (.int .u8) (.pair (.int .u8) (.pair (.int .u8) (.arr 3 (.int .u16)))))) 2)))), (39, .int .u8 x_50), (38, .int .u8 x_49), (37, .int .u8 x0.2.2.1), (36, .pointer (some ((⟨b_1, 0, .none⟩ : Addr).add (coff (.pair (.int .u8) (.pair (.int .u8) (.pair (.int .u8) (.pair (.int .u8) (.arr 3 (.int .u16)))))) 2)))), (35, .int .u8 x_46), (34, .int .u8 x0.2.2.1), (33, .pointer (some ((⟨b_1, 0, .none⟩ : Addr).add (coff (.pair (.int .u8) (.pair (.int .u8) (.pair (.int .u8) (.pair (.int .u8) (.arr 3 (.int .u16)))))) 2)))), (32, .int .u16 y_41), (31, .pointer (some (((⟨b_1, 0, .none⟩ : Addr).add (coff (.pair (.int .u8) (.pair (.int .u8) (.pair (.int .u8) (.pair (.int .u8) (.arr 3 (.int .u16)))))) 4)).add ((2 : Int).toNat * GT.sz (.int .u16))))), (30, .pointer (some ((⟨b_1, 0, .none⟩ : Addr).add (coff (.pair (.int .u8) (.pair (.int .u8) (.pair (.int .u8) (.pair (.int .u8) (.arr 3 (.int .u16)))))) 4)))), (29, .int .u16 y_38), (28, .pointer (some (((⟨b_1, 0, .none⟩ : Addr).add (coff (.pair (.int .u8) (.pair (.int .u8) (.pair (.int .u8) (.pair (.int .u8) (.arr 3 (.int .u16)))))) 4)).add ((1 : Int).toNat * GT.sz (.int .u16))))), (27, .pointer (some ((⟨b_1, 0, .none⟩ : Addr).add (coff (.pair (.int .u8) (.pair (.int .u8) (.pair (.int .u8) (.pair (.int .u8) (.arr 3 (.int .u16)))))) 4)))), (26, .int .u16 y_35), (25, .pointer (some (((⟨b_1, 0, .none⟩ : Addr).add (coff (.pair (.int .u8) (.pair (.int .u8) (.pair (.int .u8) (.pair (.int .u8) (.arr 3 (.int .u16)))))) 4)).add ((0 : Int).toNat * GT.sz (.int .u16))))), (24, .pointer (some ((⟨b_1, 0, .none⟩ : Addr).add (coff (.pair (.int .u8) (.pair (.int .u8) (.pair (.int .u8) (.pair (.int .u8) (.arr 3 (.int .u16)))))) 4)))), (23, .int .u8 y_17), (22, .int .u8 x_34), (21, .int .u8 x0.1), (20, .pointer (some ((⟨b_1, 0, .none⟩ : Addr).add (coff (.pair (.int .u8) (.pair (.int .u8) (.pair (.int .u8) (.pair (.int .u8) (.arr 3 (.int .u16)))))) 0)))), (19, .int .u8 x_31), (18, .int .u8 x0.1), (17, .pointer (some ((⟨b_1, 0, .none⟩ : Addr).add (coff (.pair (.int .u8) (.pair (.int .u8) (.pair (.int .u8) (.pair (.int .u8) (.arr 3 (.int .u16)))))) 0)))), (16, .int .u8 x0.1), (15, .pointer (some ((⟨b_1, 0, .none⟩ : Addr).add (coff (.pair (.int .u8) (.pair (.int .u8) (.pair (.int .u8) (.pair (.int .u8) (.arr 3 (.int .u16)))))) 0)))), (1, .pointer (some (⟨b_1, 0, .none⟩ : Addr))), (2, .pointer (some (⟨b_5, 0, .none⟩ : Addr))), (3, .int .u8 y_17)]) S tys tys_ok 1 (by kernel_rfl) ?_
  clear S; intro a S
  refine w_go S rfl (op_load (t := (.int .u8)) (x := x0.2.2.2.1) S rfl ty5 rfl rfl rfl (RepAt.add 3 (RepAt.st B_2.at_)) ?_)
  clear S; intro a v_55 R_56 S
  obtain ⟨rfl, GR_56⟩ := RepV.int R_56
  obtain ⟨x_57, ex_57, h⟩ := bindS h
  refine w_go S rfl (op_rem S .u8 rfl rfl rfl rfl rfl ex_57 ?_)
  clear S; intro a S
  refine wl_pure (l' := [(47, .int .u8 (IntKind.wrap .u8 (1 + x_57))), (46, .int .u8 x_57), (45, .int .u8 x0.2.2.2.1), (44, .pointer (some ((⟨b_1, 0, .none⟩ : Addr).add (coff (.pair (.int .u8) (.pair (.int .u8) (.pair (.int .u8) (.pair (.int .u8) (.arr 3 (.int .u16)))))) 3)))), (43, .int .u8 x_54), (42, .int .u8 x_53), (41, .int .u8 x0.2.2.1), (40, .pointer (some ((⟨b_1, 0, .none⟩ : Addr).add (coff (.pair (.int .u8) (.pair (.int .u8) (.pair (.int .u8) (.pair (.int .u8) (.arr 3 (.int .u16)))))) 2)))), (39, .int .u8 x_50), (38, .int .u8 x_49), (37, .int .u8 x0.2.2.1), (36, .pointer (some ((⟨b_1, 0, .none⟩ : Addr).add (coff (.pair (.int .u8) (.pair (.int .u8) (.pair (.int .u8) (.pair (.int .u8) (.arr 3 (.int .u16)))))) 2)))), (35, .int .u8 x_46), (34, .int .u8 x0.2.2.1), (33, .pointer (some ((⟨b_1, 0, .none⟩ : Addr).add (coff (.pair (.int .u8) (.pair (.int .u8) (.pair (.int .u8) (.pair (.int .u8) (.arr 3 (.int .u16)))))) 2)))), (32, .int .u16 y_41), (31, .pointer (some (((⟨b_1, 0, .none⟩ : Addr).add (coff (.pair (.int .u8) (.pair (.int .u8) (.pair (.int .u8) (.pair (.int .u8) (.arr 3 (.int .u16)))))) 4)).add ((2 : Int).toNat * GT.sz (.int .u16))))), (30, .pointer (some ((⟨b_1, 0, .none⟩ : Addr).add (coff (.pair (.int .u8) (.pair (.int .u8) (.pair (.int .u8) (.pair (.int .u8) (.arr 3 (.int .u16)))))) 4)))), (29, .int .u16 y_38), (28, .pointer (some (((⟨b_1, 0, .none⟩ : Addr).add (coff (.pair (.int .u8) (.pair (.int .u8) (.pair (.int .u8) (.pair (.int .u8) (.arr 3 (.int .u16)))))) 4)).add ((1 : Int).toNat * GT.sz (.int .u16))))), (27, .pointer (some ((⟨b_1, 0, .none⟩ : Addr).add (coff (.pair (.int .u8) (.pair (.int .u8) (.pair (.int .u8) (.pair (.int .u8) (.arr 3 (.int .u16)))))) 4)))), (26, .int .u16 y_35), (25, .pointer (some (((⟨b_1, 0, .none⟩ : Addr).add (coff (.pair (.int .u8) (.pair (.int .u8) (.pair (.int .u8) (.pair (.int .u8) (.arr 3 (.int .u16)))))) 4)).add ((0 : Int).toNat * GT.sz (.int .u16))))), (24, .pointer (some ((⟨b_1, 0, .none⟩ : Addr).add (coff (.pair (.int .u8) (.pair (.int .u8) (.pair (.int .u8) (.pair (.int .u8) (.arr 3 (.int .u16)))))) 4)))), (23, .int .u8 y_17), (22, .int .u8 x_34), (21, .int .u8 x0.1), (20, .pointer (some ((⟨b_1, 0, .none⟩ : Addr).add (coff (.pair (.int .u8) (.pair (.int .u8) (.pair (.int .u8) (.pair (.int .u8) (.arr 3 (.int .u16)))))) 0)))), (19, .int .u8 x_31), (18, .int .u8 x0.1), (17, .pointer (some ((⟨b_1, 0, .none⟩ : Addr).add (coff (.pair (.int .u8) (.pair (.int .u8) (.pair (.int .u8) (.pair (.int .u8) (.arr 3 (.int .u16)))))) 0)))), (16, .int .u8 x0.1), (15, .pointer (some ((⟨b_1, 0, .none⟩ : Addr).add (coff (.pair (.int .u8) (.pair (.int .u8) (.pair (.int .u8) (.pair (.int .u8) (.arr 3 (.int .u16)))))) 0)))), (1, .pointer (some (⟨b_1, 0, .none⟩ : Addr))), (2, .pointer (some (⟨b_5, 0, .none⟩ : Addr))), (3, .int .u8 y_17)]) S tys tys_ok 1 (by kernel_rfl) ?_
  clear S; intro a S
  refine w_go S rfl (op_build (K := (Kx K w.heap.size [some b_5, some b_1])) (f := (.pair (.int .u16) (.pair (.int .u8) (.pair (.int .u8) (.pair (.int .u8) (.pair (.int .u8) (.pair (.int .u16) (.pair (.int .u16) (.pair (.int .u16) (.pair (.int .u8) (.pair (.int .u8) (.pair (.int .u8) (.int .u8))))))))))))) (z0 := (0, 0, 0, 0, 0, 0, 0, 0, 0, 0, 0, 0)) (x := (512, x0.1, x_31, x_34, y_17, y_35, y_38, y_41, x_46, x_50, x_54, IntKind.wrap .u8 (1 + x_57))) (vs := [.int .u16 512, .int .u8 x0.1, .int .u8 x_31, .int .u8 x_34, .int .u8 y_17, .int .u16 y_35, .int .u16 y_38, .int .u16 y_41, .int .u8 x_46, .int .u8 x_50, .int .u8 x_54, .int .u8 (IntKind.wrap .u8 (1 + x_57))]) S _ rfl ty47 z47 (fun w K => ⟨[.int .u16 0], [.int .u8 0, .int .u8 0, .int .u8 0, .int .u8 0, .int .u16 0, .int .u16 0, .int .u16 0, .int .u8 0, .int .u8 0, .int .u8 0, .int .u8 0], rfl, ⟨rfl, by decide⟩, ⟨[.int .u8 0], [.int .u8 0, .int .u8 0, .int .u8 0, .int .u16 0, .int .u16 0, .int .u16 0, .int .u8 0, .int .u8 0, .int .u8 0, .int .u8 0], rfl, ⟨rfl, by decide⟩, ⟨[.int .u8 0], [.int .u8 0, .int .u8 0, .int .u16 0, .int .u16 0, .int .u16 0, .int .u8 0, .int .u8 0, .int .u8 0, .int .u8 0], rfl, ⟨rfl, by decide⟩, ⟨[.int .u8 0], [.int .u8 0, .int .u16 0, .int .u16 0, .int .u16 0, .int .u8 0, .int .u8 0, .int .u8 0, .int .u8 0], rfl, ⟨rfl, by decide⟩, ⟨[.int .u8 0], [.int .u16 0, .int .u16 0, .int .u16 0, .int .u8 0, .int .u8 0, .int .u8 0, .int .u8 0], rfl, ⟨rfl, by decide⟩, ⟨[.int .u16 0], [.int .u16 0, .int .u16 0, .int .u8 0, .int .u8 0, .int .u8 0, .int .u8 0], rfl, ⟨rfl, by decide⟩, ⟨[.int .u16 0], [.int .u16 0, .int .u8 0, .int .u8 0, .int .u8 0, .int .u8 0], rfl, ⟨rfl, by decide⟩, ⟨[.int .u16 0], [.int .u8 0, .int .u8 0, .int .u8 0, .int .u8 0], rfl, ⟨rfl, by decide⟩, ⟨[.int .u8 0], [.int .u8 0, .int .u8 0, .int .u8 0], rfl, ⟨rfl, by decide⟩, ⟨[.int .u8 0], [.int .u8 0, .int .u8 0], rfl, ⟨rfl, by decide⟩, ⟨[.int .u8 0], [.int .u8 0], rfl, ⟨rfl, by decide⟩, ⟨rfl, by decide⟩⟩⟩⟩⟩⟩⟩⟩⟩⟩⟩⟩) rfl rfl rfl [(0, .int .u16 512), (1, .int .u8 x0.1), (2, .int .u8 x_31), (3, .int .u8 x_34), (4, .int .u8 y_17), (5, .int .u16 y_35), (6, .int .u16 y_38), (7, .int .u16 y_41), (8, .int .u8 x_46), (9, .int .u8 x_50), (10, .int .u8 x_54), (11, .int .u8 (IntKind.wrap .u8 (1 + x_57)))] rfl ⟨_, (RepV.mkInt (by decide)), rfl, rfl, ⟨_, (RepV.mkInt GR_28), rfl, rfl, ⟨_, (RepV.mkInt (inR_quo ex_31)), rfl, rfl, ⟨_, (RepV.mkInt (inR_rem ex_34)), rfl, rfl, ⟨_, (RepV.mkInt G_18), rfl, rfl, ⟨_, (RepV.mkInt GR_37), rfl, rfl, ⟨_, (RepV.mkInt GR_40), rfl, rfl, ⟨_, (RepV.mkInt GR_43), rfl, rfl, ⟨_, (RepV.mkInt (inR_rem ex_46)), rfl, rfl, ⟨_, (RepV.mkInt (inR_rem ex_50)), rfl, rfl, ⟨_, (RepV.mkInt (inR_rem ex_54)), rfl, rfl, ⟨_, (RepV.mkInt (inR_wrap _ _)), rfl, rfl, rfl⟩⟩⟩⟩⟩⟩⟩⟩⟩⟩⟩⟩ ?_)
  clear S; intro a v_58 R_59 S
  refine w_go S rfl (op_store (t' := (.st (.pair (.int .u16) (.pair (.int .u8) (.pair (.int .u8) (.pair (.int .u8) (.pair (.int .u8) (.pair (.int .u16) (.pair (.int .u16) (.pair (.int .u16) (.pair (.int .u8) (.pair (.int .u8) (.pair (.int .u8) (.int .u8)))))))))))))) S rfl rfl ty47 rfl rfl rfl B_6 (by simp) Ln.whole R_59 ?_)
  intro w_60 hw_61 B_
  replace R_59 := R_59.wrote hw_61 (by simp)
  replace B_2 := B_2.wrote hw_61 (by simp) (W.bne (p := 1) (q := 0) (by decide) rfl rfl)
  replace W := W.wrote hw_61 (by simp)
  replace B_6 : Bx (.st (.pair (.int .u16) (.pair (.int .u8) (.pair (.int .u8) (.pair (.int .u8) (.pair (.int .u8) (.pair (.int .u16) (.pair (.int .u16) (.pair (.int .u16) (.pair (.int .u8) (.pair (.int .u8) (.pair (.int .u8) (.int .u8))))))))))))) 47 w_60 (Kx K w.heap.size [some b_5, some b_1]) b_5 (512, x0.1, x_31, x_34, y_17, y_35, y_38, y_41, x_46, x_50, x_54, IntKind.wrap .u8 (1 + x_57)) := B_; clear B_
  refine wpList_nil ?_
  refine then_n ?_
  replace S := S.sub (l' := [(2, .pointer (some (⟨b_5, 0, .none⟩ : Addr)))]) (by exact ⟨rfl, trivial⟩)
  refine wp_ret ?_
  obtain ⟨v_62, hr_63, R_64⟩ := res_cell (P := Try.prog) (T := 47) (t := (.st (.pair (.int .u16) (.pair (.int .u8) (.pair (.int .u8) (.pair (.int .u8) (.pair (.int .u8) (.pair (.int .u16) (.pair (.int .u16) (.pair (.int .u16) (.pair (.int .u8) (.pair (.int .u8) (.pair (.int .u8) (.int .u8)))))))))))))) (x := (512, x0.1, x_31, x_34, y_17, y_35, y_38, y_41, x_46, x_50, x_54, IntKind.wrap .u8 (1 + x_57))) S (s := 2) rfl ty47 B_6.at_
  obtain rfl := Option.some.inj h
  exact b_res1 S rfl hr_63 ⟨_, rfl, R_64.out, W.below⟩
theorem cb17 : callB Try.prog 17 = true := by kernel_rfl
def p5 (n : Nat) (x0 : Int × Int × Int × Int × (List (Int))) (x1 : Int × Int × Int × Int × (List (Int))) (x2 : Int) : Option ((Bool)) :=
  (remI .u8 x2 2).bind fun x_9 =>
  (if (x_9 == 1) then (some (x1.1, x1.2.1, x1.2.2.1, x1.2.2.2.1, x0.2.2.2.2)) else some x1).bind fun (j_10 : (Int × Int × Int × Int × (List (Int)))) =>
  (quoI .u8 x2 2).bind fun x_16 =>
  (remI .u8 x_16 2).bind fun x_17 =>
  (if (x_17 == 1) then (some (x0.1, x0.2.1, j_10.2.2.1, j_10.2.2.2.1, j_10.2.2.2.2)) else some j_10).bind fun (j_18 : (Int × Int × Int × Int × (List (Int)))) =>
  (quoI .u8 x2 4).bind fun x_55 =>
  (remI .u8 x_55 2).bind fun x_56 =>
  (if (x_56 == 1) then (some (j_18.1, j_18.2.1, x0.2.2.1, x0.2.2.2.1, j_18.2.2.2.2)) else some j_18).bind fun (j_57 : (Int × Int × Int × Int × (List (Int)))) =>
  (p17 n x0).bind fun t_96 =>
  (p16 n t_96).bind fun t_101 =>
  (p17 n j_57).bind fun t_110 =>
  (p16 n t_110).bind fun t_115 =>
  (if (t_101.2 == 0) = true then some (t_115.2 == 0) else some false).bind fun q_122 =>
  (if q_122 = true then some ((lenI t_101.1) == 18) else some false).bind fun q_124 =>
  (if q_124 = true then (p17 n x0).bind fun t_131 => (p17 n j_57).bind fun t_138 => some ((decide (t_101.1.xs = t_115.1.xs)) == (eqP (.pair (.int .u16) (.pair (.int .u8) (.pair (.int .u8) (.pair (.int .u8) (.pair (.int .u8) (.pair (.int .u16) (.pair (.int .u16) (.pair (.int .u16) (.pair (.int .u8) (.pair (.int .u8) (.pair (.int .u8) (.int .u8)))))))))))) t_131 t_138)) else some false).bind fun q_127 =>
  (if q_127 = true then (p11 n).bind fun t_145 => some t_145 else some false).bind fun q_143 =>
  some q_143
set_option maxHeartbeats 4000000 in
set_option maxRecDepth 100000 in
/-- plugboard/plugboardlaw13.DescriptorsApart -/
theorem c5 (K : Nat → Prop) (n : Nat) (w : World) (x0 : Int × Int × Int × Int × (List (Int))) (v0 : Value) (R0 : RepV (.st (.pair (.int .u8) (.pair (.int .u8) (.pair (.int .u8) (.pair (.int .u8) (.arr 3 (.int .u16))))))) w K v0 x0) (x1 : Int × Int × Int × Int × (List (Int))) (v1 : Value) (R1 : RepV (.st (.pair (.int .u8) (.pair (.int .u8) (.pair (.int .u8) (.pair (.int .u8) (.arr 3 (.int .u16))))))) w K v1 x1) (x2 : Int) (G2 : InR .u8 x2) {r : (Bool)} (h : p5 n x0 x1 x2 = some r) :
    Calls Try.prog 5 #[v0, v1, .int .u8 x2] w (Ret1 .bool w (Kx K w.heap.size []) r) := by
  refine enter (args := [v0, v1, .int .u8 x2]) Try.func5 rfl 76 rfl rfl fun a S => ?_
  have W := Wd.start w
  replace R0 := R0.arg
  replace R1 := R1.arg
  unfold p5 at h
  replace S : St 76 a [(0, v0), (1, v1), (2, .int .u8 x2)] := S
  refine wp_seq ?_
  refine wp_region_lit ?_
  refine w_go S rfl (op_box S rfl rfl rfl rfl rfl R0 ?_)
  clear S; intro a w_3 b_1 hb_4 B_2 S
  replace R0 := R0.box hb_4
  replace R1 := R1.box hb_4
  replace W := W.box hb_4
  refine w_go S rfl (op_box S rfl rfl rfl rfl rfl R1 ?_)
  clear S; intro a w_7 b_5 hb_8 B_6 S
  replace R0 := R0.box hb_8
  replace R1 := R1.box hb_8
  replace B_2 := B_2.box hb_8
  replace W := W.box hb_8
  refine wl_pure (l' := [(6, .bool false), (4, .pointer (some (⟨b_5, 0, .none⟩ : Addr))), (3, .pointer (some (⟨b_1, 0, .none⟩ : Addr))), (0, v0), (1, v1), (2, .int .u8 x2)]) S tys tys_ok 1 (by kernel_rfl) ?_
  clear S; intro a S
  refine wpList_nil ?_
  refine then_n ?_
  replace S := S.sub (l' := [(4, .pointer (some (⟨b_5, 0, .none⟩ : Addr))), (3, .pointer (some (⟨b_1, 0, .none⟩ : Addr))), (2, .int .u8 x2)]) (by exact ⟨rfl, rfl, rfl, trivial⟩)
  refine wp_seq ?_
  refine wp_seq ?_
  refine wp_region_lit ?_
  refine wl_pure (l' := [(11, .int .u8 x2), (4, .pointer (some (⟨b_5, 0, .none⟩ : Addr))), (3, .pointer (some (⟨b_1, 0, .none⟩ : Addr))), (2, .int .u8 x2)]) S tys tys_ok 1 (by kernel_rfl) ?_
  clear S; intro a S
  obtain ⟨x_9, ex_9, h⟩ := bindS h
  refine w_go S rfl (op_rem S .u8 rfl rfl rfl rfl rfl ex_9 ?_)
  clear S; intro a S
  refine wl_pure (l' := [(13, .bool (x_9 == 1)), (12, .int .u8 x_9), (11, .int .u8 x2), (4, .pointer (some (⟨b_5, 0, .none⟩ : Addr))), (3, .pointer (some (⟨b_1, 0, .none⟩ : Addr))), (2, .int .u8 x2)]) S tys tys_ok 1 (by kernel_rfl) ?_
  clear S; intro a S
  refine wpList_nil ?_
  refine then_n ?_
  replace S := S.sub (l' := [(13, .bool (x_9 == 1)), (4, .pointer (some (⟨b_5, 0, .none⟩ : Addr))), (3, .pointer (some (⟨b_1, 0, .none⟩ : Addr))), (2, .int .u8 x2)]) (by exact ⟨rfl, rfl, rfl, rfl, trivial⟩)
  obtain ⟨j_10, ej_10, h⟩ := bindS h
  refine wp_cut_ (fun a_ w_ => St 76 a_ [(4, .pointer (some (⟨b_5, 0, .none⟩ : Addr))), (3, .pointer (some (⟨b_1, 0, .none⟩ : Addr))), (2, .int .u8 x2)] ∧ Wd w w_ [some b_5, some b_1] ∧ Bx (.st (.pair (.int .u8) (.pair (.int .u8) (.pair (.int .u8) (.pair (.int .u8) (.arr 3 (.int .u16))))))) 43 w_ (Kx K w.heap.size [some b_5, some b_1]) b_1 x0 ∧ Bx (.st (.pair (.int .u8) (.pair (.int .u8) (.pair (.int .u8) (.pair (.int .u8) (.arr 3 (.int .u16))))))) 43 w_ (Kx K w.heap.size [some b_5, some b_1]) b_5 j_10) ?_ ?_
  · refine wp_cond_split (S.eval (show ev _ _ = some (.bool (x_9 == 1)) from rfl)) ?_ ?_
    · intro hc
      rw [if_pos hc] at ej_10
      refine wp_region_lit ?_
      refine wl_pure (l' := [(14, .pointer (some ((⟨b_1, 0, .none⟩ : Addr).add (coff (.pair (.int .u8) (.pair (.int .u8) (.pair (.int .u8) (.pair (.int .u8) (.arr 3 (.int .u16)))))) 4)))), (13, .bool (x_9 == 1)), (4, .pointer (some (⟨b_5, 0, .none⟩ : Addr))), (3, .pointer (some (⟨b_1, 0, .none⟩ : Addr))), (2, .int .u8 x2)]) S tys tys_ok 1 (by kernel_rfl) ?_
      clear S; intro a S
      refine w_go S rfl (op_load (t := (.arr 3 (.int .u16))) (x := x0.2.2.2.2) S rfl ty41 rfl rfl rfl (RepAt.add 4 (RepAt.st B_2.at_)) ?_)
      clear S; intro a v_11 R_12 S
      refine wl_pure (l' := [(16, .pointer (some ((⟨b_5, 0, .none⟩ : Addr).add (coff (.pair (.int .u8) (.pair (.int .u8) (.pair (.int .u8) (.pair (.int .u8) (.arr 3 (.int .u16)))))) 4)))), (15, v_11), (14, .pointer (some ((⟨b_1, 0, .none⟩ : Addr).add (coff (.pair (.int .u8) (.pair (.int .u8) (.pair (.int .u8) (.pair (.int .u8) (.arr 3 (.int .u16)))))) 4)))), (13, .bool (x_9 == 1)), (4, .pointer (some (⟨b_5, 0, .none⟩ : Addr))), (3, .pointer (some (⟨b_1, 0, .none⟩ : Addr))), (2, .int .u8 x2)]) S tys tys_ok 1 (by kernel_rfl) ?_
      clear S; intro a S
      refine w_go S rfl (op_store (t' := (.arr 3 (.int .u16))) S rfl rfl ty41 rfl (addr_add _ _ _) rfl B_6 (by simp) (Ln.st (Ln.comp 4)) R_12 ?_)
      intro w_13 hw_14 B_
      replace R_12 := R_12.wrote hw_14 (by simp)
      replace B_2 := B_2.wrote hw_14 (by simp) (W.bne (p := 1) (q := 0) (by decide) rfl rfl)
      replace W := W.wrote hw_14 (by simp)
      replace B_6 : Bx (.st (.pair (.int .u8) (.pair (.int .u8) (.pair (.int .u8) (.pair (.int .u8) (.arr 3 (.int .u16))))))) 43 w_13 (Kx K w.heap.size [some b_5, some b_1]) b_5 (x1.1, x1.2.1, x1.2.2.1, x1.2.2.2.1, x0.2.2.2.2) := B_; clear B_
      refine wpList_nil ?_
      refine then_n ?_
      obtain rfl := Option.some.inj ej_10
      exact ⟨S.sub (by exact ⟨rfl, rfl, rfl, trivial⟩), W, B_2, B_6⟩
    · intro hc
      rw [if_neg (Bool.eq_false_iff.1 hc)] at ej_10
      refine wp_skip ?_
      refine then_n ?_
      obtain rfl := Option.some.inj ej_10
      exact ⟨S.sub (by exact ⟨rfl, rfl, rfl, trivial⟩), W, B_2, B_6⟩
  clear S W; rintro a w_15 ⟨S, W, B_2, B_6⟩
  refine then_n ?_
  refine wp_seq ?_
  refine wp_seq ?_
  refine wp_region_lit ?_
  refine wl_pure (l' := [(17, .int .u8 x2), (4, .pointer (some (⟨b_5, 0, .none⟩ : Addr))), (3, .pointer (some (⟨b_1, 0, .none⟩ : Addr))), (2, .int .u8 x2)]) S tys tys_ok 1 (by kernel_rfl) ?_
  clear S; intro a S
  obtain ⟨x_16, ex_16, h⟩ := bindS h
  refine w_go S rfl (op_quo S .u8 rfl rfl rfl rfl rfl ex_16 ?_)
  clear S; intro a S
  obtain ⟨x_17, ex_17, h⟩ := bindS h
  refine w_go S rfl (op_rem S .u8 rfl rfl rfl rfl rfl ex_17 ?_)
  clear S; intro a S
  refine wl_pure (l' := [(20, .bool (x_17 == 1)), (19, .int .u8 x_17), (18, .int .u8 x_16), (17, .int .u8 x2), (4, .pointer (some (⟨b_5, 0, .none⟩ : Addr))), (3, .pointer (some (⟨b_1, 0, .none⟩ : Addr))), (2, .int .u8 x2)]) S tys tys_ok 1 (by kernel_rfl) ?_
  clear S; intro a S
  refine wpList_nil ?_
  refine then_n ?_
  replace S := S.sub (l' := [(20, .bool (x_17 == 1)), (4, .pointer (some (⟨b_5, 0, .none⟩ : Addr))), (3, .pointer (some (⟨b_1, 0, .none⟩ : Addr))), (2, .int .u8 x2)]) (by exact ⟨rfl, rfl, rfl, rfl, trivial⟩)
  obtain ⟨j_18, ej_18, h⟩ := bindS h
  refine wp_cut_ (fun a_ w_ => St 76 a_ [(4, .pointer (some (⟨b_5, 0, .none⟩ : Addr))), (3, .pointer (some (⟨b_1, 0, .none⟩ : Addr))), (2, .int .u8 x2)] ∧ Wd w w_ [some b_5, some b_1] ∧ Bx (.st (.pair (.int .u8) (.pair (.int .u8) (.pair (.int .u8) (.pair (.int .u8) (.arr 3 (.int .u16))))))) 43 w_ (Kx K w.heap.size [some b_5, some b_1]) b_1 x0 ∧ Bx (.st (.pair (.int .u8) (.pair (.int .u8) (.pair (.int .u8) (.pair (.int .u8) (.arr 3 (.int .u16))))))) 43 w_ (Kx K w.heap.size [some b_5, some b_1]) b_5 j_18) ?_ ?_
  · refine wp_cond_split (S.eval (show ev _ _ = some (.bool (x_17 == 1)) from rfl)) ?_ ?_
    · intro hc
      rw [if_pos hc] at ej_18
      have hR : Rel (Kx K w.heap.size [some b_5, some b_1]) (Sto2 (.st (.pair (.int .u8) (.pair (.int .u8) (.pair (.int .u8) (.pair (.int .u8) (.arr 3 (.int .u16))))))) 43 (Kx K w.heap.size [some b_5, some b_1]) b_5 j_10 (x0.1, j_10.2.1, j_10.2.2.1, j_10.2.2.2.1, j_10.2.2.2.2)) := Sto2.rel (Kx.not (by simp))
      refine wp_region_suf 6 hR [eqv (.pointer (some ((⟨b_1, 0, .none⟩ : Addr).add (coff (.pair (.int .u8) (.pair (.int .u8) (.pair (.int .u8) (.pair (.int .u8) (.arr 3 (.int .u16)))))) 0)))), isI .u8 x0.1, eqv (.pointer (some ((⟨b_1, 0, .none⟩ : Addr).add (coff (.pair (.int .u8) (.pair (.int .u8) (.pair (.int .u8) (.pair (.int .u8) (.arr 3 (.int .u16)))))) 1)))), isI .u8 x0.2.1, eqv (.pointer (some ((⟨b_5, 0, .none⟩ : Addr).add (coff (.pair (.int .u8) (.pair (.int .u8) (.pair (.int .u8) (.pair (.int .u8) (.arr 3 (.int .u16)))))) 0)))), isBx (.st (.pair (.int .u8) (.pair (.int .u8) (.pair (.int .u8) (.pair (.int .u8) (.arr 3 (.int .u16))))))) 43 (Kx K w.heap.size [some b_5, some b_1]) b_5 (x0.1, j_10.2.1, j_10.2.2.1, j_10.2.2.2.1, j_10.2.2.2.2)] [[], [(0, 21)], [], [(2, 23)], [], [(4, 25), (1, 22)]] (by kernel_rfl) (by rw [S.size]; kernel_rfl) (by kernel_rfl) (by kernel_rfl) (by kernel_rfl) rfl ⟨(stab_eqv _), stab_I, (stab_eqv _), stab_I, (stab_eqv _), stab_bx2, trivial⟩ ?_ ?_
      ·
        refine RunAll.cons (eqv (.pointer (some ((⟨b_1, 0, .none⟩ : Addr).add (coff (.pair (.int .u8) (.pair (.int .u8) (.pair (.int .u8) (.pair (.int .u8) (.arr 3 (.int .u16)))))) 0))))) [] rfl rfl ?_ ?_
        · intro W_ hW
          have S1 := S
          refine fill_nil S1 ?_; clear S1; intro a_ S1
          replace B_2 := Sto2.bx B_2 hW (Kx.not (by simp)) (W.bne (p := 1) (q := 0) (by decide) rfl rfl)
          have S0 := S.defers; replace S := S1; clear S1
          refine wl_pure (l' := [(21, .pointer (some ((⟨b_1, 0, .none⟩ : Addr).add (coff (.pair (.int .u8) (.pair (.int .u8) (.pair (.int .u8) (.pair (.int .u8) (.arr 3 (.int .u16)))))) 0)))), (20, .bool (x_17 == 1)), (4, .pointer (some (⟨b_5, 0, .none⟩ : Addr))), (3, .pointer (some (⟨b_1, 0, .none⟩ : Addr))), (2, .int .u8 x2)]) S tys tys_ok 1 (by kernel_rfl) ?_; clear S; intro a S
          refine wpList_nil ?_
          exact RPost.mk_ S rfl S0 rfl (hR.below _ _ (Below.refl _ _))
        refine RunAll.cons (isI .u8 x0.1) [(eqv (.pointer (some ((⟨b_1, 0, .none⟩ : Addr).add (coff (.pair (.int .u8) (.pair (.int .u8) (.pair (.int .u8) (.pair (.int .u8) (.arr 3 (.int .u16)))))) 0)))), 21)] rfl rfl ?_ ?_
        · intro W_ hW
          have S1 := S
          intro v_24 hF_23; obtain rfl : .pointer (some ((⟨b_1, 0, .none⟩ : Addr).add (coff (.pair (.int .u8) (.pair (.int .u8) (.pair (.int .u8) (.pair (.int .u8) (.arr 3 (.int .u16)))))) 0))) = v_24 := Eq.symm hF_23
          replace S1 := S1.put (by decide : 21 < 76) (.pointer (some ((⟨b_1, 0, .none⟩ : Addr).add (coff (.pair (.int .u8) (.pair (.int .u8) (.pair (.int .u8) (.pair (.int .u8) (.arr 3 (.int .u16)))))) 0))))
          refine fill_nil S1 ?_; clear S1; intro a_ S1
          replace B_2 := Sto2.bx B_2 hW (Kx.not (by simp)) (W.bne (p := 1) (q := 0) (by decide) rfl rfl)
          have S0 := S.defers; replace S := S1; clear S1
          refine w_go S rfl (op_load (t := (.int .u8)) (x := x0.1) S rfl ty5 rfl rfl rfl (RepAt.add 0 (RepAt.st B_2.at_)) ?_)
          clear S; intro a v_25 R_26 S
          obtain ⟨rfl, GR_26⟩ := RepV.int R_26
          refine wpList_nil ?_
          exact RPost.mk_ S rfl S0 ⟨rfl, GR_26⟩ (hR.below _ _ (Below.refl _ _))
        refine RunAll.cons (eqv (.pointer (some ((⟨b_1, 0, .none⟩ : Addr).add (coff (.pair (.int .u8) (.pair (.int .u8) (.pair (.int .u8) (.pair (.int .u8) (.arr 3 (.int .u16)))))) 1))))) [] rfl rfl ?_ ?_
        · intro W_ hW
          have S1 := S
          refine fill_nil S1 ?_; clear S1; intro a_ S1
          replace B_2 := Sto2.bx B_2 hW (Kx.not (by simp)) (W.bne (p := 1) (q := 0) (by decide) rfl rfl)
          have S0 := S.defers; replace S := S1; clear S1
          refine wl_pure (l' := [(23, .pointer (some ((⟨b_1, 0, .none⟩ : Addr).add (coff (.pair (.int .u8) (.pair (.int .u8) (.pair (.int .u8) (.pair (.int .u8) (.arr 3 (.int .u16)))))) 1)))), (20, .bool (x_17 == 1)), (4, .pointer (some (⟨b_5, 0, .none⟩ : Addr))), (3, .pointer (some (⟨b_1, 0, .none⟩ : Addr))), (2, .int .u8 x2)]) S tys tys_ok 1 (by kernel_rfl) ?_; clear S; intro a S
          refine wpList_nil ?_
          exact RPost.mk_ S rfl S0 rfl (hR.below _ _ (Below.refl _ _))
        refine RunAll.cons (isI .u8 x0.2.1) [(eqv (.pointer (some ((⟨b_1, 0, .none⟩ : Addr).add (coff (.pair (.int .u8) (.pair (.int .u8) (.pair (.int .u8) (.pair (.int .u8) (.arr 3 (.int .u16)))))) 1)))), 23)] rfl rfl ?_ ?_
        · intro W_ hW
          have S1 := S
          intro v_28 hF_27; obtain rfl : .pointer (some ((⟨b_1, 0, .none⟩ : Addr).add (coff (.pair (.int .u8) (.pair (.int .u8) (.pair (.int .u8) (.pair (.int .u8) (.arr 3 (.int .u16)))))) 1))) = v_28 := Eq.symm hF_27
          replace S1 := S1.put (by decide : 23 < 76) (.pointer (some ((⟨b_1, 0, .none⟩ : Addr).add (coff (.pair (.int .u8) (.pair (.int .u8) (.pair (.int .u8) (.pair (.int .u8) (.arr 3 (.int .u16)))))) 1))))
          refine fill_nil S1 ?_; clear S1; intro a_ S1
          replace B_2 := Sto2.bx B_2 hW (Kx.not (by simp)) (W.bne (p := 1) (q := 0) (by decide) rfl rfl)
          have S0 := S.defers; replace S := S1; clear S1
          refine w_go S rfl (op_load (t := (.int .u8)) (x := x0.2.1) S rfl ty5 rfl rfl rfl (RepAt.add 1 (RepAt.st B_2.at_)) ?_)
          clear S; intro a v_29 R_30 S
          obtain ⟨rfl, GR_30⟩ := RepV.int R_30
          refine wpList_nil ?_
          exact RPost.mk_ S rfl S0 ⟨rfl, GR_30⟩ (hR.below _ _ (Below.refl _ _))
        refine RunAll.cons (eqv (.pointer (some ((⟨b_5, 0, .none⟩ : Addr).add (coff (.pair (.int .u8) (.pair (.int .u8) (.pair (.int .u8) (.pair (.int .u8) (.arr 3 (.int .u16)))))) 0))))) [] rfl rfl ?_ ?_
        · intro W_ hW
          have S1 := S
          refine fill_nil S1 ?_; clear S1; intro a_ S1
          have S0 := S.defers; replace S := S1; clear S1
          refine wl_pure (l' := [(25, .pointer (some ((⟨b_5, 0, .none⟩ : Addr).add (coff (.pair (.int .u8) (.pair (.int .u8) (.pair (.int .u8) (.pair (.int .u8) (.arr 3 (.int .u16)))))) 0)))), (20, .bool (x_17 == 1)), (4, .pointer (some (⟨b_5, 0, .none⟩ : Addr))), (3, .pointer (some (⟨b_1, 0, .none⟩ : Addr))), (2, .int .u8 x2)]) S tys tys_ok 1 (by kernel_rfl) ?_; clear S; intro a S
          refine wpList_nil ?_
          exact RPost.mk_ S rfl S0 rfl (hR.below _ _ (Below.refl _ _))
        refine RunAll.cons (isBx (.st (.pair (.int .u8) (.pair (.int .u8) (.pair (.int .u8) (.pair (.int .u8) (.arr 3 (.int .u16))))))) 43 (Kx K w.heap.size [some b_5, some b_1]) b_5 (x0.1, j_10.2.1, j_10.2.2.1, j_10.2.2.2.1, j_10.2.2.2.2)) [(eqv (.pointer (some ((⟨b_5, 0, .none⟩ : Addr).add (coff (.pair (.int .u8) (.pair (.int .u8) (.pair (.int .u8) (.pair (.int .u8) (.arr 3 (.int .u16)))))) 0)))), 25), (isI .u8 x0.1, 22)] rfl rfl ?_ ?_
        · intro W_ hW
          have S1 := S
          intro v_32 hF_31; obtain rfl : .pointer (some ((⟨b_5, 0, .none⟩ : Addr).add (coff (.pair (.int .u8) (.pair (.int .u8) (.pair (.int .u8) (.pair (.int .u8) (.arr 3 (.int .u16)))))) 0))) = v_32 := Eq.symm hF_31
          replace S1 := S1.put (by decide : 25 < 76) (.pointer (some ((⟨b_5, 0, .none⟩ : Addr).add (coff (.pair (.int .u8) (.pair (.int .u8) (.pair (.int .u8) (.pair (.int .u8) (.arr 3 (.int .u16)))))) 0))))
          rintro _ ⟨rfl, hF_33⟩
          replace S1 := S1.put (by decide : 22 < 76) (.int .u8 x0.1)
          refine fill_nil S1 ?_; clear S1; intro a_ S1
          rcases hW.two (.inl B_6) with B_35 | B_35
          ·
            have S0 := S.defers; replace S := S1; clear S1
            refine w_go S rfl (op_store (t' := (.int .u8)) S rfl rfl ty5 rfl (addr_add _ _ _) rfl B_35 (by simp) (Ln.st (Ln.comp 0)) ((RepV.mkInt hF_33) : RepV (.int .u8) W_ (Kx K w.heap.size [some b_5, some b_1]) _ x0.1) ?_)
            intro w_36 hw_37 B_
            replace B_35 : Bx (.st (.pair (.int .u8) (.pair (.int .u8) (.pair (.int .u8) (.pair (.int .u8) (.arr 3 (.int .u16))))))) 43 w_36 (Kx K w.heap.size [some b_5, some b_1]) b_5 (x0.1, j_10.2.1, j_10.2.2.1, j_10.2.2.2.1, j_10.2.2.2.2) := B_; clear B_
            refine wpList_nil ?_
            exact RPost.mkN S S0 B_35 (Sto2.of_wrote hw_37 B_35)
          ·
            have S0 := S.defers; replace S := S1; clear S1
            refine w_go S rfl (op_store (t' := (.int .u8)) S rfl rfl ty5 rfl (addr_add _ _ _) rfl B_35 (by simp) (Ln.st (Ln.comp 0)) ((RepV.mkInt hF_33) : RepV (.int .u8) W_ (Kx K w.heap.size [some b_5, some b_1]) _ x0.1) ?_)
            intro w_38 hw_39 B_
            replace B_35 : Bx (.st (.pair (.int .u8) (.pair (.int .u8) (.pair (.int .u8) (.pair (.int .u8) (.arr 3 (.int .u16))))))) 43 w_38 (Kx K w.heap.size [some b_5, some b_1]) b_5 (x0.1, j_10.2.1, j_10.2.2.1, j_10.2.2.2.1, j_10.2.2.2.2) := B_; clear B_
            refine wpList_nil ?_
            exact RPost.mkN S S0 B_35 (Sto2.of_wrote hw_39 B_35)
        exact trivial
      intro w_40 hb_41
      refine EndE.some_ rfl ?_
      intro v_43 hF_42; obtain rfl : .pointer (some ((⟨b_1, 0, .none⟩ : Addr).add (coff (.pair (.int .u8) (.pair (.int .u8) (.pair (.int .u8) (.pair (.int .u8) (.arr 3 (.int .u16)))))) 0))) = v_43 := Eq.symm hF_42
      replace S := S.put (by decide : 21 < 76) (.pointer (some ((⟨b_1, 0, .none⟩ : Addr).add (coff (.pair (.int .u8) (.pair (.int .u8) (.pair (.int .u8) (.pair (.int .u8) (.arr 3 (.int .u16)))))) 0))))
      refine EndE.some_ rfl ?_
      rintro _ ⟨rfl, hF_44⟩
      replace S := S.put (by decide : 22 < 76) (.int .u8 x0.1)
      refine EndE.some_ rfl ?_
      intro v_47 hF_46; obtain rfl : .pointer (some ((⟨b_1, 0, .none⟩ : Addr).add (coff (.pair (.int .u8) (.pair (.int .u8) (.pair (.int .u8) (.pair (.int .u8) (.arr 3 (.int .u16)))))) 1))) = v_47 := Eq.symm hF_46
      replace S := S.put (by decide : 23 < 76) (.pointer (some ((⟨b_1, 0, .none⟩ : Addr).add (coff (.pair (.int .u8) (.pair (.int .u8) (.pair (.int .u8) (.pair (.int .u8) (.arr 3 (.int .u16)))))) 1))))
      refine EndE.some_ rfl ?_
      rintro _ ⟨rfl, hF_48⟩
      replace S := S.put (by decide : 24 < 76) (.int .u8 x0.2.1)
      refine EndE.some_ rfl ?_
      intro v_51 hF_50; obtain rfl : .pointer (some ((⟨b_5, 0, .none⟩ : Addr).add (coff (.pair (.int .u8) (.pair (.int .u8) (.pair (.int .u8) (.pair (.int .u8) (.arr 3 (.int .u16)))))) 0))) = v_51 := Eq.symm hF_50
      replace S := S.put (by decide : 25 < 76) (.pointer (some ((⟨b_5, 0, .none⟩ : Addr).add (coff (.pair (.int .u8) (.pair (.int .u8) (.pair (.int .u8) (.pair (.int .u8) (.arr 3 (.int .u16)))))) 0))))
      refine EndE.none_ rfl ?_; intro Bnew_; replace Bnew_ : Bx _ _ _ _ _ _ := Bnew_
      refine endE_nil S ?_; clear S; intro a S
      replace B_2 := Sto2.bx B_2 hb_41 (Kx.not (by simp)) (W.bne (p := 1) (q := 0) (by decide) rfl rfl)
      replace B_6 := Bnew_; clear Bnew_
      replace W := Sto2.wd W hb_41 (by simp)
      refine wl_pure (l' := [(26, .pointer (some ((⟨b_5, 0, .none⟩ : Addr).add (coff (.pair (.int .u8) (.pair (.int .u8) (.pair (.int .u8) (.pair (.int .u8) (.arr 3 (.int .u16)))))) 1)))), (25, .pointer (some ((⟨b_5, 0, .none⟩ : Addr).add (coff (.pair (.int .u8) (.pair (.int .u8) (.pair (.int .u8) (.pair (.int .u8) (.arr 3 (.int .u16)))))) 0)))), (24, .int .u8 x0.2.1), (23, .pointer (some ((⟨b_1, 0, .none⟩ : Addr).add (coff (.pair (.int .u8) (.pair (.int .u8) (.pair (.int .u8) (.pair (.int .u8) (.arr 3 (.int .u16)))))) 1)))), (22, .int .u8 x0.1), (21, .pointer (some ((⟨b_1, 0, .none⟩ : Addr).add (coff (.pair (.int .u8) (.pair (.int .u8) (.pair (.int .u8) (.pair (.int .u8) (.arr 3 (.int .u16)))))) 0)))), (20, .bool (x_17 == 1)), (4, .pointer (some (⟨b_5, 0, .none⟩ : Addr))), (3, .pointer (some (⟨b_1, 0, .none⟩ : Addr))), (2, .int .u8 x2)]) S tys tys_ok 1 (by kernel_rfl) ?_
      clear S; intro a S
      refine w_go S rfl (op_store (t' := (.int .u8)) S rfl rfl ty5 rfl (addr_add _ _ _) rfl B_6 (by simp) (Ln.st (Ln.comp 1)) ((RepV.mkInt hF_48) : RepV (.int .u8) w_40 (Kx K w.heap.size [some b_5, some b_1]) _ x0.2.1) ?_)
      intro w_52 hw_53 B_
      replace B_2 := B_2.wrote hw_53 (by simp) (W.bne (p := 1) (q := 0) (by decide) rfl rfl)
      replace W := W.wrote hw_53 (by simp)
      replace B_6 : Bx (.st (.pair (.int .u8) (.pair (.int .u8) (.pair (.int .u8) (.pair (.int .u8) (.arr 3 (.int .u16))))))) 43 w_52 (Kx K w.heap.size [some b_5, some b_1]) b_5 (x0.1, x0.2.1, j_10.2.2.1, j_10.2.2.2.1, j_10.2.2.2.2) := B_; clear B_
      refine wpList_nil ?_
      refine then_n ?_
      obtain rfl := Option.some.inj ej_18
      exact ⟨S.sub (by exact ⟨rfl, rfl, rfl, trivial⟩), W, B_2, B_6⟩
    · intro hc
      rw [if_neg (Bool.eq_false_iff.1 hc)] at ej_18
      refine wp_skip ?_
      refine then_n ?_
      obtain rfl := Option.some.inj ej_18
      exact ⟨S.sub (by exact ⟨rfl, rfl, rfl, trivial⟩), W, B_2, B_6⟩
  clear S W; rintro a w_54 ⟨S, W, B_2, B_6⟩
  refine then_n ?_
  refine wp_seq ?_
  refine wp_seq ?_
  refine wp_region_lit ?_
  refine wl_pure (l' := [(27, .int .u8 x2), (4, .pointer (some (⟨b_5, 0, .none⟩ : Addr))), (3, .pointer (some (⟨b_1, 0, .none⟩ : Addr))), (2, .int .u8 x2)]) S tys tys_ok 1 (by kernel_rfl) ?_
  clear S; intro a S
  obtain ⟨x_55, ex_55, h⟩ := bindS h
  refine w_go S rfl (op_quo S .u8 rfl rfl rfl rfl rfl ex_55 ?_)
  clear S; intro a S
  obtain ⟨x_56, ex_56, h⟩ := bindS h
  refine w_go S rfl (op_rem S .u8 rfl rfl rfl rfl rfl ex_56 ?_)
  clear S; intro a S
  refine wl_pure (l' := [(30, .bool (x_56 == 1)), (29, .int .u8 x_56), (28, .int .u8 x_55), (27, .int .u8 x2), (4, .pointer (some (⟨b_5, 0, .none⟩ : Addr))), (3, .pointer (some (⟨b_1, 0, .none⟩ : Addr))), (2, .int .u8 x2)]) S tys tys_ok 1 (by kernel_rfl) ?_
  clear S; intro a S
  refine wpList_nil ?_
  refine then_n ?_
  replace S := S.sub (l' := [(30, .bool (x_56 == 1)), (4, .pointer (some (⟨b_5, 0, .none⟩ : Addr))), (3, .pointer (some (⟨b_1, 0, .none⟩ : Addr)))]) (by exact ⟨rfl, rfl, rfl, trivial⟩)
  obtain ⟨j_57, ej_57, h⟩ := bindS h
  refine wp_cut_ (fun a_ w_ => St 76 a_ [(4, .pointer (some (⟨b_5, 0, .none⟩ : Addr))), (3, .pointer (some (⟨b_1, 0, .none⟩ : Addr)))] ∧ Wd w w_ [some b_5, some b_1] ∧ Bx (.st (.pair (.int .u8) (.pair (.int .u8) (.pair (.int .u8) (.pair (.int .u8) (.arr 3 (.int .u16))))))) 43 w_ (Kx K w.heap.size [some b_5, some b_1]) b_1 x0 ∧ Bx (.st (.pair (.int .u8) (.pair (.int .u8) (.pair (.int .u8) (.pair (.int .u8) (.arr 3 (.int .u16))))))) 43 w_ (Kx K w.heap.size [some b_5, some b_1]) b_5 j_57) ?_ ?_
  · refine wp_cond_split (S.eval (show ev _ _ = some (.bool (x_56 == 1)) from rfl)) ?_ ?_
    · intro hc
      rw [if_pos hc] at ej_57
      have hR : Rel (Kx K w.heap.size [some b_5, some b_1]) (Sto2 (.st (.pair (.int .u8) (.pair (.int .u8) (.pair (.int .u8) (.pair (.int .u8) (.arr 3 (.int .u16))))))) 43 (Kx K w.heap.size [some b_5, some b_1]) b_5 j_18 (j_18.1, j_18.2.1, x0.2.2.1, j_18.2.2.2.1, j_18.2.2.2.2)) := Sto2.rel (Kx.not (by simp))
      refine wp_region_suf 6 hR [eqv (.pointer (some ((⟨b_1, 0, .none⟩ : Addr).add (coff (.pair (.int .u8) (.pair (.int .u8) (.pair (.int .u8) (.pair (.int .u8) (.arr 3 (.int .u16)))))) 2)))), isI .u8 x0.2.2.1, eqv (.pointer (some ((⟨b_1, 0, .none⟩ : Addr).add (coff (.pair (.int .u8) (.pair (.int .u8) (.pair (.int .u8) (.pair (.int .u8) (.arr 3 (.int .u16)))))) 3)))), isI .u8 x0.2.2.2.1, eqv (.pointer (some ((⟨b_5, 0, .none⟩ : Addr).add (coff (.pair (.int .u8) (.pair (.int .u8) (.pair (.int .u8) (.pair (.int .u8) (.arr 3 (.int .u16)))))) 2)))), isBx (.st (.pair (.int .u8) (.pair (.int .u8) (.pair (.int .u8) (.pair (.int .u8) (.arr 3 (.int .u16))))))) 43 (Kx K w.heap.size [some b_5, some b_1]) b_5 (j_18.1, j_18.2.1, x0.2.2.1, j_18.2.2.2.1, j_18.2.2.2.2)] [[], [(0, 31)], [], [(2, 33)], [], [(4, 35), (1, 32)]] (by kernel_rfl) (by rw [S.size]; kernel_rfl) (by kernel_rfl) (by kernel_rfl) (by kernel_rfl) rfl ⟨(stab_eqv _), stab_I, (stab_eqv _), stab_I, (stab_eqv _), stab_bx2, trivial⟩ ?_ ?_
      ·
        refine RunAll.cons (eqv (.pointer (some ((⟨b_1, 0, .none⟩ : Addr).add (coff (.pair (.int .u8) (.pair (.int .u8) (.pair (.int .u8) (.pair (.int .u8) (.arr 3 (.int .u16)))))) 2))))) [] rfl rfl ?_ ?_
        · intro W_ hW
          have S1 := S
          refine fill_nil S1 ?_; clear S1; intro a_ S1
          replace B_2 := Sto2.bx B_2 hW (Kx.not (by simp)) (W.bne (p := 1) (q := 0) (by decide) rfl rfl)
          have S0 := S.defers; replace S := S1; clear S1
          refine wl_pure (l' := [(31, .pointer (some ((⟨b_1, 0, .none⟩ : Addr).add (coff (.pair (.int .u8) (.pair (.int .u8) (.pair (.int .u8) (.pair (.int .u8) (.arr 3 (.int .u16)))))) 2)))), (30, .bool (x_56 == 1)), (4, .pointer (some (⟨b_5, 0, .none⟩ : Addr))), (3, .pointer (some (⟨b_1, 0, .none⟩ : Addr)))]) S tys tys_ok 1 (by kernel_rfl) ?_; clear S; intro a S
          refine wpList_nil ?_
          exact RPost.mk_ S rfl S0 rfl (hR.below _ _ (Below.refl _ _))
        refine RunAll.cons (isI .u8 x0.2.2.1) [(eqv (.pointer (some ((⟨b_1, 0, .none⟩ : Addr).add (coff (.pair (.int .u8) (.pair (.int .u8) (.pair (.int .u8) (.pair (.int .u8) (.arr 3 (.int .u16)))))) 2)))), 31)] rfl rfl ?_ ?_
        · intro W_ hW
          have S1 := S
          intro v_63 hF_62; obtain rfl : .pointer (some ((⟨b_1, 0, .none⟩ : Addr).add (coff (.pair (.int .u8) (.pair (.int .u8) (.pair (.int .u8) (.pair (.int .u8) (.arr 3 (.int .u16)))))) 2))) = v_63 := Eq.symm hF_62
          replace S1 := S1.put (by decide : 31 < 76) (.pointer (some ((⟨b_1, 0, .none⟩ : Addr).add (coff (.pair (.int .u8) (.pair (.int .u8) (.pair (.int .u8) (.pair (.int .u8) (.arr 3 (.int .u16)))))) 2))))
          refine fill_nil S1 ?_; clear S1; intro a_ S1
          replace B_2 := Sto2.bx B_2 hW (Kx.not (by simp)) (W.bne (p := 1) (q := 0) (by decide) rfl rfl)
          have S0 := S.defers; replace S := S1; clear S1
          refine w_go S rfl (op_load (t := (.int .u8)) (x := x0.2.2.1) S rfl ty5 rfl rfl rfl (RepAt.add 2 (RepAt.st B_2.at_)) ?_)
          clear S; intro a v_64 R_65 S
          obtain ⟨rfl, GR_65⟩ := RepV.int R_65
          refine wpList_nil ?_
          exact RPost.mk_ S rfl S0 ⟨rfl, GR_65⟩ (hR.below _ _ (Below.refl _ _))
        refine RunAll.cons (eqv (.pointer (some ((⟨b_1, 0, .none⟩ : Addr).add (coff (.pair (.int .u8) (.pair (.int .u8) (.pair (.int .u8) (.pair (.int .u8) (.arr 3 (.int .u16)))))) 3))))) [] rfl rfl ?_ ?_
        · intro W_ hW
          have S1 := S
          refine fill_nil S1 ?_; clear S1; intro a_ S1
          replace B_2 := Sto2.bx B_2 hW (Kx.not (by simp)) (W.bne (p := 1) (q := 0) (by decide) rfl rfl)
          have S0 := S.defers; replace S := S1; clear S1
          refine wl_pure (l' := [(33, .pointer (some ((⟨b_1, 0, .none⟩ : Addr).add (coff (.pair (.int .u8) (.pair (.int .u8) (.pair (.int .u8) (.pair (.int .u8) (.arr 3 (.int .u16)))))) 3)))), (30, .bool (x_56 == 1)), (4, .pointer (some (⟨b_5, 0, .none⟩ : Addr))), (3, .pointer (some (⟨b_1, 0, .none⟩ : Addr)))]) S tys tys_ok 1 (by kernel_rfl) ?_; clear S; intro a S
          refine wpList_nil ?_
          exact RPost.mk_ S rfl S0 rfl (hR.below _ _ (Below.refl _ _))
        refine RunAll.cons (isI .u8 x0.2.2.2.1) [(eqv (.pointer (some ((⟨b_1, 0, .none⟩ : Addr).add (coff (.pair (.int .u8) (.pair (.int .u8) (.pair (.int .u8) (.pair (.int .u8) (.arr 3 (.int .u16)))))) 3)))), 33)] rfl rfl ?_ ?_
        · intro W_ hW
          have S1 := S
          intro v_67 hF_66; obtain rfl : .pointer (some ((⟨b_1, 0, .none⟩ : Addr).add (coff (.pair (.int .u8) (.pair (.int .u8) (.pair (.int .u8) (.pair (.int .u8) (.arr 3 (.int .u16)))))) 3))) = v_67 := Eq.symm hF_66
          replace S1 := S1.put (by decide : 33 < 76) (.pointer (some ((⟨b_1, 0, .none⟩ : Addr).add (coff (.pair (.int .u8) (.pair (.int .u8) (.pair (.int .u8) (.pair (.int .u8) (.arr 3 (.int .u16)))))) 3))))
          refine fill_nil S1 ?_; clear S1; intro a_ S1
          replace B_2 := Sto2.bx B_2 hW (Kx.not (by simp)) (W.bne (p := 1) (q := 0) (by decide) rfl rfl)
          have S0 := S.defers; replace S := S1; clear S1
          refine w_go S rfl (op_load (t := (.int .u8)) (x := x0.2.2.2.1) S rfl ty5 rfl rfl rfl (RepAt.add 3 (RepAt.st B_2.at_)) ?_)
          clear S; intro a v_68 R_69 S
          obtain ⟨rfl, GR_69⟩ := RepV.int R_69
          refine wpList_nil ?_
          exact RPost.mk_ S rfl S0 ⟨rfl, GR_69⟩ (hR.below _ _ (Below.refl _ _))
        refine RunAll.cons (eqv (.pointer (some ((⟨b_5, 0, .none⟩ : Addr).add (coff (.pair (.int .u8) (.pair (.int .u8) (.pair (.int .u8) (.pair (.int .u8) (.arr 3 (.int .u16)))))) 2))))) [] rfl rfl ?_ ?_
        · intro W_ hW
          have S1 := S
          refine fill_nil S1 ?_; clear S1; intro a_ S1
          have S0 := S.defers; replace S := S1; clear S1
          refine wl_pure (l' := [(35, .pointer (some ((⟨b_5, 0, .none⟩ : Addr).add (coff (.pair (.int .u8) (.pair (.int .u8) (.pair (.int .u8) (.pair (.int .u8) (.arr 3 (.int .u16)))))) 2)))), (30, .bool (x_56 == 1)), (4, .pointer (some (⟨b_5, 0, .none⟩ : Addr))), (3, .pointer (some (⟨b_1, 0, .none⟩ : Addr)))]) S tys tys_ok 1 (by kernel_rfl) ?_; clear S; intro a S
          refine wpList_nil ?_
          exact RPost.mk_ S rfl S0 rfl (hR.below _ _ (Below.refl _ _))
        refine RunAll.cons (isBx (.st (.pair (.int .u8) (.pair (.int .u8) (.pair (.int .u8) (.pair (.int .u8) (.arr 3 (.int .u16))))))) 43 (Kx K w.heap.size [some b_5, some b_1]) b_5 (j_18.1, j_18.2.1, x0.2.2.1, j_18.2.2.2.1, j_18.2.2.2.2)) [(eqv (.pointer (some ((⟨b_5, 0, .none⟩ : Addr).add (coff (.pair (.int .u8) (.pair (.int .u8) (.pair (.int .u8) (.pair (.int .u8) (.arr 3 (.int .u16)))))) 2)))), 35), (isI .u8 x0.2.2.1, 32)] rfl rfl ?_ ?_
        · intro W_ hW
          have S1 := S
          intro v_71 hF_70; obtain rfl : .pointer (some ((⟨b_5, 0, .none⟩ : Addr).add (coff (.pair (.int .u8) (.pair (.int .u8) (.pair (.int .u8) (.pair (.int .u8) (.arr 3 (.int .u16)))))) 2))) = v_71 := Eq.symm hF_70
          replace S1 := S1.put (by decide : 35 < 76) (.pointer (some ((⟨b_5, 0, .none⟩ : Addr).add (coff (.pair (.int .u8) (.pair (.int .u8) (.pair (.int .u8) (.pair (.int .u8) (.arr 3 (.int .u16)))))) 2))))
          rintro _ ⟨rfl, hF_72⟩
          replace S1 := S1.put (by decide : 32 < 76) (.int .u8 x0.2.2.1)
          refine fill_nil S1 ?_; clear S1; intro a_ S1
          rcases hW.two (.inl B_6) with B_74 | B_74
          ·
            have S0 := S.defers; replace S := S1; clear S1
            refine w_go S rfl (op_store (t' := (.int .u8)) S rfl rfl ty5 rfl (addr_add _ _ _) rfl B_74 (by simp) (Ln.st (Ln.comp 2)) ((RepV.mkInt hF_72) : RepV (.int .u8) W_ (Kx K w.heap.size [some b_5, some b_1]) _ x0.2.2.1) ?_)
            intro w_75 hw_76 B_
            replace B_74 : Bx (.st (.pair (.int .u8) (.pair (.int .u8) (.pair (.int .u8) (.pair (.int .u8) (.arr 3 (.int .u16))))))) 43 w_75 (Kx K w.heap.size [some b_5, some b_1]) b_5 (j_18.1, j_18.2.1, x0.2.2.1, j_18.2.2.2.1, j_18.2.2.2.2) := B_; clear B_
            refine wpList_nil ?_
            exact RPost.mkN S S0 B_74 (Sto2.of_wrote hw_76 B_74)
          ·
            have S0 := S.defers; replace S := S1; clear S1
            refine w_go S rfl (op_store (t' := (.int .u8)) S rfl rfl ty5 rfl (addr_add _ _ _) rfl B_74 (by simp) (Ln.st (Ln.comp 2)) ((RepV.mkInt hF_72) : RepV (.int .u8) W_ (Kx K w.heap.size [some b_5, some b_1]) _ x0.2.2.1) ?_)
            intro w_77 hw_78 B_
            replace B_74 : Bx (.st (.pair (.int .u8) (.pair (.int .u8) (.pair (.int .u8) (.pair (.int .u8) (.arr 3 (.int .u16))))))) 43 w_77 (Kx K w.heap.size [some b_5, some b_1]) b_5 (j_18.1, j_18.2.1, x0.2.2.1, j_18.2.2.2.1, j_18.2.2.2.2) := B_; clear B_
            refine wpList_nil ?_
            exact RPost.mkN S S0 B_74 (Sto2.of_wrote hw_78 B_74)
        exact trivial
      intro w_79 hb_80
      refine EndE.some_ rfl ?_
      intro v_82 hF_81; obtain rfl : .pointer (some ((⟨b_1, 0, .none⟩ : Addr).add (coff (.pair (.int .u8) (.pair (.int .u8) (.pair (.int .u8) (.pair (.int .u8) (.arr 3 (.int .u16)))))) 2))) = v_82 := Eq.symm hF_81
      replace S := S.put (by decide : 31 < 76) (.pointer (some ((⟨b_1, 0, .none⟩ : Addr).add (coff (.pair (.int .u8) (.pair (.int .u8) (.pair (.int .u8) (.pair (.int .u8) (.arr 3 (.int .u16)))))) 2))))
      refine EndE.some_ rfl ?_
      rintro _ ⟨rfl, hF_83⟩
      replace S := S.put (by decide : 32 < 76) (.int .u8 x0.2.2.1)
      refine EndE.some_ rfl ?_
      intro v_86 hF_85; obtain rfl : .pointer (some ((⟨b_1, 0, .none⟩ : Addr).add (coff (.pair (.int .u8) (.pair (.int .u8) (.pair (.int .u8) (.pair (.int .u8) (.arr 3 (.int .u16)))))) 3))) = v_86 := Eq.symm hF_85
      replace S := S.put (by decide : 33 < 76) (.pointer (some ((⟨b_1, 0, .none⟩ : Addr).add (coff (.pair (.int .u8) (.pair (.int .u8) (.pair (.int .u8) (.pair (.int .u8) (.arr 3 (.int .u16)))))) 3))))
      refine EndE.some_ rfl ?_
      rintro _ ⟨rfl, hF_87⟩
      replace S := S.put (by decide : 34 < 76) (.int .u8 x0.2.2.2.1)
      refine EndE.some_ rfl ?_
      intro v_90 hF_89; obtain rfl : .pointer (some ((⟨b_5, 0, .none⟩ : Addr).add (coff (.pair (.int .u8) (.pair (.int .u8) (.pair (.int .u8) (.pair (.int .u8) (.arr 3 (.int .u16)))))) 2))) = v_90 := Eq.symm hF_89
      replace S := S.put (by decide : 35 < 76) (.pointer (some ((⟨b_5, 0, .none⟩ : Addr).add (coff (.pair (.int .u8) (.pair (.int .u8) (.pair (.int .u8) (.pair (.int .u8) (.arr 3 (.int .u16)))))) 2))))
      refine EndE.none_ rfl ?_; intro Bnew_; replace Bnew_ : Bx _ _ _ _ _ _ := Bnew_
      refine endE_nil S ?_; clear S; intro a S
      replace B_2 := Sto2.bx B_2 hb_80 (Kx.not (by simp)) (W.bne (p := 1) (q := 0) (by decide) rfl rfl)
      replace B_6 := Bnew_; clear Bnew_
      replace W := Sto2.wd W hb_80 (by simp)
      refine wl_pure (l' := [(36, .pointer (some ((⟨b_5, 0, .none⟩ : Addr).add (coff (.pair (.int .u8) (.pair (.int .u8) (.pair (.int .u8) (.pair (.int .u8) (.arr 3 (.int .u16)))))) 3)))), (35, .pointer (some ((⟨b_5, 0, .none⟩ : Addr).add (coff (.pair (.int .u8) (.pair (.int .u8) (.pair (.int .u8) (.pair (.int .u8) (.arr 3 (.int .u16)))))) 2)))), (34, .int .u8 x0.2.2.2.1), (33, .pointer (some ((⟨b_1, 0, .none⟩ : Addr).add (coff (.pair (.int .u8) (.pair (.int .u8) (.pair (.int .u8) (.pair (.int .u8) (.arr 3 (.int .u16)))))) 3)))), (32, .int .u8 x0.2.2.1), (31, .pointer (some ((⟨b_1, 0, .none⟩ : Addr).add (coff (.pair (.int .u8) (.pair (.int .u8) (.pair (.int .u8) (.pair (.int .u8) (.arr 3 (.int .u16)))))) 2)))), (30, .bool (x_56 == 1)), (4, .pointer (some (⟨b_5, 0, .none⟩ : Addr))), (3, .pointer (some (⟨b_1, 0, .none⟩ : Addr)))]) S tys tys_ok 1 (by kernel_rfl) ?_
      clear S; intro a S
      refine w_go S rfl (op_store (t' := (.int .u8)) S rfl rfl ty5 rfl (addr_add _ _ _) rfl B_6 (by simp) (Ln.st (Ln.comp 3)) ((RepV.mkInt hF_87) : RepV (.int .u8) w_79 (Kx K w.heap.size [some b_5, some b_1]) _ x0.2.2.2.1) ?_)
      intro w_91 hw_92 B_
      replace B_2 := B_2.wrote hw_92 (by simp) (W.bne (p := 1) (q := 0) (by decide) rfl rfl)
      replace W := W.wrote hw_92 (by simp)
      replace B_6 : Bx (.st (.pair (.int .u8) (.pair (.int .u8) (.pair (.int .u8) (.pair (.int .u8) (.arr 3 (.int .u16))))))) 43 w_91 (Kx K w.heap.size [some b_5, some b_1]) b_5 (j_18.1, j_18.2.1, x0.2.2.1, x0.2.2.2.1, j_18.2.2.2.2) := B_; clear B_
      refine wpList_nil ?_
      refine then_n ?_
      obtain rfl := Option.some.inj ej_57
      exact ⟨S.sub (by exact ⟨rfl, rfl, trivial⟩), W, B_2, B_6⟩
    · intro hc
      rw [if_neg (Bool.eq_false_iff.1 hc)] at ej_57
      refine wp_skip ?_
      refine then_n ?_
      obtain rfl := Option.some.inj ej_57
      exact ⟨S.sub (by exact ⟨rfl, rfl, trivial⟩), W, B_2, B_6⟩
  clear S W; rintro a w_93 ⟨S, W, B_2, B_6⟩
  refine then_n ?_
  refine wp_seq ?_
  refine wp_region_lit ?_
  refine w_go S rfl (op_load (t := (.st (.pair (.int .u8) (.pair (.int .u8) (.pair (.int .u8) (.pair (.int .u8) (.arr 3 (.int .u16)))))))) (x := x0) S rfl ty43 rfl rfl rfl B_2.at_ ?_)
  clear S; intro a v_94 R_95 S
  obtain ⟨t_96, et_96, h⟩ := bindS h
  refine w_go S rfl (op_call (vs := [v_94]) S rfl cb17 rfl rfl rfl (c17 (Kx K w.heap.size [some b_5, some b_1]) n w_93 x0 _ R_95 et_96) ?_)
  rintro _ w_100 ⟨v_97, rfl, R_98, hb_99⟩; refine ⟨_, rfl, ?_⟩
  replace R_98 := RepV.back R_98 W
  clear S; intro a S
  replace R_95 := R_95.step hb_99
  replace B_2 := B_2.step hb_99
  replace B_6 := B_6.step hb_99
  replace W := W.step hb_99
  obtain ⟨t_101, et_101, h⟩ := bindS h
  refine w_go S rfl (op_call (vs := [v_97]) S rfl cb16 rfl rfl rfl (c16 (Kx K w.heap.size [some b_5, some b_1]) n w_100 t_96 _ R_98 et_101) ?_)
  rintro _ w_107 ⟨v_102, v_103, rfl, R_104, R_105, hb_106⟩; refine ⟨_, rfl, ?_⟩
  replace R_104 := RepV.back R_104 W
  replace R_105 := RepV.back R_105 W
  clear S; intro a S
  replace R_95 := R_95.step hb_106
  replace R_98 := R_98.step hb_106
  replace B_2 := B_2.step hb_106
  replace B_6 := B_6.step hb_106
  replace W := W.step hb_106
  obtain ⟨rfl, GR_105⟩ := RepV.int R_105
  refine wl_pure (l' := [(8, .int .i64 t_101.2), (7, v_102), (42, .int .i64 t_101.2), (41, v_102), (37, .tuple #[v_102, .int .i64 t_101.2]), (40, .tuple #[v_102, .int .i64 t_101.2]), (39, v_97), (38, v_94), (4, .pointer (some (⟨b_5, 0, .none⟩ : Addr))), (3, .pointer (some (⟨b_1, 0, .none⟩ : Addr)))]) S tys tys_ok 5 (by kernel_rfl) ?_
  clear S; intro a S
  refine wpList_nil ?_
  refine then_n ?_
  replace S := S.sub (l' := [(8, .int .i64 t_101.2), (7, v_102), (4, .pointer (some (⟨b_5, 0, .none⟩ : Addr))), (3, .pointer (some (⟨b_1, 0, .none⟩ : Addr)))]) (by exact ⟨rfl, rfl, rfl, rfl, trivial⟩)
  refine wp_seq ?_
  refine wp_region_lit ?_
  refine w_go S rfl (op_load (t := (.st (.pair (.int .u8) (.pair (.int .u8) (.pair (.int .u8) (.pair (.int .u8) (.arr 3 (.int .u16)))))))) (x := j_57) S rfl ty43 rfl rfl rfl B_6.at_ ?_)
  clear S; intro a v_108 R_109 S
  obtain ⟨t_110, et_110, h⟩ := bindS h
  refine w_go S rfl (op_call (vs := [v_108]) S rfl cb17 rfl rfl rfl (c17 (Kx K w.heap.size [some b_5, some b_1]) n w_107 j_57 _ R_109 et_110) ?_)
  rintro _ w_114 ⟨v_111, rfl, R_112, hb_113⟩; refine ⟨_, rfl, ?_⟩
  replace R_112 := RepV.back R_112 W
  clear S; intro a S
  replace R_104 := R_104.step hb_113
  replace R_109 := R_109.step hb_113
  replace B_2 := B_2.step hb_113
  replace B_6 := B_6.step hb_113
  replace W := W.step hb_113
  obtain ⟨t_115, et_115, h⟩ := bindS h
  refine w_go S rfl (op_call (vs := [v_111]) S rfl cb16 rfl rfl rfl (c16 (Kx K w.heap.size [some b_5, some b_1]) n w_114 t_110 _ R_112 et_115) ?_)
  rintro _ w_121 ⟨v_116, v_117, rfl, R_118, R_119, hb_120⟩; refine ⟨_, rfl, ?_⟩
  replace R_118 := RepV.back R_118 W
  replace R_119 := RepV.back R_119 W
  clear S; intro a S
  replace R_104 := R_104.step hb_120
  replace R_109 := R_109.step hb_120
  replace R_112 := R_112.step hb_120
  replace B_2 := B_2.step hb_120
  replace B_6 := B_6.step hb_120
  replace W := W.step hb_120
  obtain ⟨rfl, GR_119⟩ := RepV.int R_119
  refine wl_pure (l' := [(10, .int .i64 t_115.2), (9, v_116), (48, .int .i64 t_115.2), (47, v_116), (43, .tuple #[v_116, .int .i64 t_115.2]), (46, .tuple #[v_116, .int .i64 t_115.2]), (45, v_111), (44, v_108), (8, .int .i64 t_101.2), (7, v_102), (4, .pointer (some (⟨b_5, 0, .none⟩ : Addr))), (3, .pointer (some (⟨b_1, 0, .none⟩ : Addr)))]) S tys tys_ok 5 (by kernel_rfl) ?_
  clear S; intro a S
  refine wpList_nil ?_
  refine then_n ?_
  replace S := S.sub (l' := [(10, .int .i64 t_115.2), (9, v_116), (8, .int .i64 t_101.2), (7, v_102), (4, .pointer (some (⟨b_5, 0, .none⟩ : Addr))), (3, .pointer (some (⟨b_1, 0, .none⟩ : Addr)))]) (by exact ⟨rfl, rfl, rfl, rfl, rfl, rfl, trivial⟩)
  refine wp_seq ?_
  obtain ⟨q_122, eq_122, h⟩ := bindS h
  have HG_123 : ((t_101.2 == 0) = true → (t_115.2 == 0) = q_122) ∧ (¬ (t_101.2 == 0) = true → false = q_122) := by
    by_cases hc : (t_101.2 == 0) = true
    · rw [if_pos hc] at eq_122
      exact ⟨fun _ => Option.some.inj eq_122, fun k_ => absurd hc k_⟩
    · rw [if_neg hc] at eq_122
      exact ⟨fun k_ => absurd k_ hc, fun _ => Option.some.inj eq_122⟩
  obtain ⟨q_124, eq_124, h⟩ := bindS h
  have HG_125 : (q_122 = true → ((lenI t_101.1) == 18) = q_124) ∧ (¬ q_122 = true → false = q_124) := by
    by_cases hc : q_122 = true
    · rw [if_pos hc] at eq_124
      exact ⟨fun _ => Option.some.inj eq_124, fun k_ => absurd hc k_⟩
    · rw [if_neg hc] at eq_124
      exact ⟨fun k_ => absurd k_ hc, fun _ => Option.some.inj eq_124⟩
  obtain ⟨q_127, eq_127, h⟩ := bindS h
  obtain ⟨t_131, t_138, HG_128⟩ : ∃ (t_131 : (Int × Int × Int × Int × Int × Int × Int × Int × Int × Int × Int × Int)) (t_138 : (Int × Int × Int × Int × Int × Int × Int × Int × Int × Int × Int × Int)) , (q_124 = true → (p17 n x0) = some t_131 ∧ (p17 n j_57) = some t_138 ∧ ((decide (t_101.1.xs = t_115.1.xs)) == (eqP (.pair (.int .u16) (.pair (.int .u8) (.pair (.int .u8) (.pair (.int .u8) (.pair (.int .u8) (.pair (.int .u16) (.pair (.int .u16) (.pair (.int .u16) (.pair (.int .u8) (.pair (.int .u8) (.pair (.int .u8) (.int .u8)))))))))))) t_131 t_138)) = q_127) ∧ (¬ q_124 = true → false = q_127) := by
    by_cases hc : q_124 = true
    · rw [if_pos hc] at eq_127
      obtain ⟨t_131, et_131, eq_127⟩ := bindS eq_127
      obtain ⟨t_138, et_138, eq_127⟩ := bindS eq_127
      exact ⟨t_131, t_138, ⟨fun _ => ⟨et_131, et_138, Option.some.inj eq_127⟩, fun k_ => absurd hc k_⟩⟩
    · rw [if_neg hc] at eq_127
      exact ⟨default, default, ⟨fun k_ => absurd k_ hc, fun _ => Option.some.inj eq_127⟩⟩
  obtain ⟨q_143, eq_143, h⟩ := bindS h
  obtain ⟨t_145, HG_144⟩ : ∃ (t_145 : (Bool)) , (q_127 = true → (p11 n) = some t_145 ∧ t_145 = q_143) ∧ (¬ q_127 = true → false = q_143) := by
    by_cases hc : q_127 = true
    · rw [if_pos hc] at eq_143
      obtain ⟨t_145, et_145, eq_143⟩ := bindS eq_143
      exact ⟨t_145, ⟨fun _ => ⟨et_145, Option.some.inj eq_143⟩, fun k_ => absurd hc k_⟩⟩
    · rw [if_neg hc] at eq_143
      exact ⟨default, ⟨fun k_ => absurd k_ hc, fun _ => Option.some.inj eq_143⟩⟩
  have hR : Rel (Kx K w.heap.size [some b_5, some b_1]) Bl := Bl.rel _
  refine wp_region_all hR [isI .i64 t_101.2, eqv (.bool (t_101.2 == 0)), eqv (.bool (t_101.2 == 0)), cndF (t_101.2 == 0) true (isI .i64 t_115.2), cndF (t_101.2 == 0) true (eqv (.bool (t_115.2 == 0))), eqv (.bool q_122), eqv (.bool q_122), cndF q_122 true (isRep (.sl (.int .u8)) (Kx K w.heap.size [some b_5, some b_1]) t_101.1), cndF q_122 true (isI .i64 (lenI t_101.1)), cndF q_122 true (eqv (.bool ((lenI t_101.1) == 18))), eqv (.bool q_124), eqv (.bool q_124), cndF q_124 true (isRep (.sl (.int .u8)) (Kx K w.heap.size [some b_5, some b_1]) t_101.1), cndF q_124 true (isS t_101.1.xs), cndF q_124 true (isRep (.sl (.int .u8)) (Kx K w.heap.size [some b_5, some b_1]) t_115.1), cndF q_124 true (isS t_115.1.xs), cndF q_124 true (eqv (.bool (decide (t_101.1.xs = t_115.1.xs)))), cndF q_124 true (isRep (.st (.pair (.int .u8) (.pair (.int .u8) (.pair (.int .u8) (.pair (.int .u8) (.arr 3 (.int .u16))))))) (Kx K w.heap.size [some b_5, some b_1]) x0), cndF q_124 true (isRep (.st (.pair (.int .u16) (.pair (.int .u8) (.pair (.int .u8) (.pair (.int .u8) (.pair (.int .u8) (.pair (.int .u16) (.pair (.int .u16) (.pair (.int .u16) (.pair (.int .u8) (.pair (.int .u8) (.pair (.int .u8) (.int .u8))))))))))))) (Kx K w.heap.size [some b_5, some b_1]) t_131), cndF q_124 true (isRep (.st (.pair (.int .u8) (.pair (.int .u8) (.pair (.int .u8) (.pair (.int .u8) (.arr 3 (.int .u16))))))) (Kx K w.heap.size [some b_5, some b_1]) j_57), cndF q_124 true (isRep (.st (.pair (.int .u16) (.pair (.int .u8) (.pair (.int .u8) (.pair (.int .u8) (.pair (.int .u8) (.pair (.int .u16) (.pair (.int .u16) (.pair (.int .u16) (.pair (.int .u8) (.pair (.int .u8) (.pair (.int .u8) (.int .u8))))))))))))) (Kx K w.heap.size [some b_5, some b_1]) t_138), cndF q_124 true (eqv (.bool (eqP (.pair (.int .u16) (.pair (.int .u8) (.pair (.int .u8) (.pair (.int .u8) (.pair (.int .u8) (.pair (.int .u16) (.pair (.int .u16) (.pair (.int .u16) (.pair (.int .u8) (.pair (.int .u8) (.pair (.int .u8) (.int .u8)))))))))))) t_131 t_138))), cndF q_124 true (eqv (.bool ((decide (t_101.1.xs = t_115.1.xs)) == (eqP (.pair (.int .u16) (.pair (.int .u8) (.pair (.int .u8) (.pair (.int .u8) (.pair (.int .u8) (.pair (.int .u16) (.pair (.int .u16) (.pair (.int .u16) (.pair (.int .u8) (.pair (.int .u8) (.pair (.int .u8) (.int .u8)))))))))))) t_131 t_138)))), eqv (.bool q_127), eqv (.bool q_127), cndF q_127 true (eqv (.bool t_145)), eqv (.bool q_143), eqv (.bool q_143)] [[], [(0, 49)], [(1, 50)], [(2, 51)], [(3, 52), (2, 51)], [(2, 51), (4, 53)], [(5, 54)], [(6, 55)], [(7, 56), (6, 55)], [(8, 57), (6, 55)], [(6, 55), (9, 58)], [(10, 59)], [(11, 60)], [(12, 61), (11, 60)], [(11, 60)], [(14, 63), (11, 60)], [(13, 62), (15, 64), (11, 60)], [(11, 60)], [(17, 66), (11, 60)], [(11, 60)], [(19, 68), (11, 60)], [(18, 67), (20, 69), (11, 60)], [(16, 65), (21, 70), (11, 60)], [(11, 60), (22, 71)], [(23, 72)], [(24, 73)], [(24, 73), (25, 74)], [(26, 75)]] (by kernel_rfl) (by rw [S.size]; kernel_rfl) (by kernel_rfl) (by kernel_rfl) rfl ⟨stab_I, (stab_eqv _), (stab_eqv _), (stab_cnd stab_I), (stab_cnd (stab_eqv _)), (stab_eqv _), (stab_eqv _), (stab_cnd (stab_rep hR)), (stab_cnd stab_I), (stab_cnd (stab_eqv _)), (stab_eqv _), (stab_eqv _), (stab_cnd (stab_rep hR)), (stab_cnd stab_S), (stab_cnd (stab_rep hR)), (stab_cnd stab_S), (stab_cnd (stab_eqv _)), (stab_cnd (stab_rep hR)), (stab_cnd (stab_rep hR)), (stab_cnd (stab_rep hR)), (stab_cnd (stab_rep hR)), (stab_cnd (stab_eqv _)), (stab_cnd (stab_eqv _)), (stab_eqv _), (stab_eqv _), (stab_cnd (stab_eqv _)), (stab_eqv _), (stab_eqv _), trivial⟩ ?_ ?_
  ·
    refine RunAll.cons (isI .i64 t_101.2) [] rfl rfl ?_ ?_
    · intro W_ hW
      have S1 := S
      refine fill_nil S1 ?_; clear S1; intro a_ S1
      have S0 := S.defers; replace S := S1; clear S1
      refine wl_pure (l' := [(49, .int .i64 t_101.2), (10, .int .i64 t_115.2), (9, v_116), (8, .int .i64 t_101.2), (7, v_102), (4, .pointer (some (⟨b_5, 0, .none⟩ : Addr))), (3, .pointer (some (⟨b_1, 0, .none⟩ : Addr)))]) S tys tys_ok 1 (by kernel_rfl) ?_; clear S; intro a S
      refine wpList_nil ?_
      exact RPost.mk_ S rfl S0 ⟨rfl, GR_105⟩ (Below.refl _ _)
    refine RunAll.cons (eqv (.bool (t_101.2 == 0))) [(isI .i64 t_101.2, 49)] rfl rfl ?_ ?_
    · intro W_ hW
      have S1 := S
      rintro _ ⟨rfl, hF_150⟩
      replace S1 := S1.put (by decide : 49 < 76) (.int .i64 t_101.2)
      refine fill_nil S1 ?_; clear S1; intro a_ S1
      have S0 := S.defers; replace S := S1; clear S1
      refine wl_pure (l' := [(50, .bool (t_101.2 == 0)), (49, .int .i64 t_101.2), (10, .int .i64 t_115.2), (9, v_116), (8, .int .i64 t_101.2), (7, v_102), (4, .pointer (some (⟨b_5, 0, .none⟩ : Addr))), (3, .pointer (some (⟨b_1, 0, .none⟩ : Addr)))]) S tys tys_ok 1 (by kernel_rfl) ?_; clear S; intro a S
      refine wpList_nil ?_
      exact RPost.mk_ S rfl S0 rfl (Below.refl _ _)
    refine RunAll.cons (eqv (.bool (t_101.2 == 0))) [(eqv (.bool (t_101.2 == 0)), 50)] rfl rfl ?_ ?_
    · intro W_ hW
      have S1 := S
      intro v_153 hF_152; obtain rfl : .bool (t_101.2 == 0) = v_153 := Eq.symm hF_152
      replace S1 := S1.put (by decide : 50 < 76) (.bool (t_101.2 == 0))
      refine fill_nil S1 ?_; clear S1; intro a_ S1
      have S0 := S.defers; replace S := S1; clear S1
      refine wl_pure (l' := [(51, .bool (t_101.2 == 0)), (50, .bool (t_101.2 == 0)), (10, .int .i64 t_115.2), (9, v_116), (8, .int .i64 t_101.2), (7, v_102), (4, .pointer (some (⟨b_5, 0, .none⟩ : Addr))), (3, .pointer (some (⟨b_1, 0, .none⟩ : Addr)))]) S tys tys_ok 1 (by kernel_rfl) ?_; clear S; intro a S
      refine wpList_nil ?_
      exact RPost.mk_ S rfl S0 rfl (Below.refl _ _)
    refine RunAll.cons (cndF (t_101.2 == 0) true (isI .i64 t_115.2)) [(eqv (.bool (t_101.2 == 0)), 51)] rfl rfl ?_ ?_
    · intro W_ hW
      by_cases hc0 : (t_101.2 == 0) = true
      · have hl0 : (t_101.2 == 0) = true := hc0
        have S1 := S
        intro v_155 hF_154; obtain rfl : .bool (t_101.2 == 0) = v_155 := Eq.symm hF_154
        replace S1 := S1.put (by decide : 51 < 76) (.bool (t_101.2 == 0))
        refine fill_nil S1 ?_; clear S1; intro a_ S1
        rw [show (t_101.2 == 0) = true from hl0] at S1
        have S0 := S.defers; replace S := S1; clear S1
        refine wl_pure (l' := [(52, .int .i64 t_115.2), (51, .bool true), (10, .int .i64 t_115.2), (9, v_116), (8, .int .i64 t_101.2), (7, v_102), (4, .pointer (some (⟨b_5, 0, .none⟩ : Addr))), (3, .pointer (some (⟨b_1, 0, .none⟩ : Addr)))]) S tys tys_ok 1 (by kernel_rfl) ?_; clear S; intro a S
        refine wpList_nil ?_
        exact RPost.mk_ S rfl S0 ⟨fun _ => ⟨rfl, GR_119⟩, fun k_ => absurd hc0 k_⟩ (Below.refl _ _)
      · have hl0 : (t_101.2 == 0) = false := Bool.eq_false_iff.2 hc0
        have S1 := S
        intro v_157 hF_156; obtain rfl : .bool (t_101.2 == 0) = v_157 := Eq.symm hF_156
        replace S1 := S1.put (by decide : 51 < 76) (.bool (t_101.2 == 0))
        refine fill_nil S1 ?_; clear S1; intro a_ S1
        rw [show (t_101.2 == 0) = false from hl0] at S1
        have S0 := S.defers; replace S := S1; clear S1
        refine wl_pure (l' := [(52, undef), (51, .bool false), (10, .int .i64 t_115.2), (9, v_116), (8, .int .i64 t_101.2), (7, v_102), (4, .pointer (some (⟨b_5, 0, .none⟩ : Addr))), (3, .pointer (some (⟨b_1, 0, .none⟩ : Addr)))]) S tys tys_ok 1 (by kernel_rfl) ?_; clear S; intro a S
        refine wpList_nil ?_
        exact RPost.mk_ S rfl S0 ⟨fun k_ => absurd k_ hc0, fun _ => rfl⟩ (Below.refl _ _)
    refine RunAll.cons (cndF (t_101.2 == 0) true (eqv (.bool (t_115.2 == 0)))) [(cndF (t_101.2 == 0) true (isI .i64 t_115.2), 52), (eqv (.bool (t_101.2 == 0)), 51)] rfl rfl ?_ ?_
    · intro W_ hW
      by_cases hc0 : (t_101.2 == 0) = true
      · have hl0 : (t_101.2 == 0) = true := hc0
        have S1 := S
        intro v_158 hF_159
        replace hF_159 := cndF.pos hF_159 hc0
        revert hF_159
        revert v_158
        rintro _ ⟨rfl, hF_160⟩
        replace S1 := S1.put (by decide : 52 < 76) (.int .i64 t_115.2)
        intro v_163 hF_162; obtain rfl : .bool (t_101.2 == 0) = v_163 := Eq.symm hF_162
        replace S1 := S1.put (by decide : 51 < 76) (.bool (t_101.2 == 0))
        refine fill_nil S1 ?_; clear S1; intro a_ S1
        rw [show (t_101.2 == 0) = true from hl0] at S1
        have S0 := S.defers; replace S := S1; clear S1
        refine wl_pure (l' := [(53, .bool (t_115.2 == 0)), (51, .bool true), (52, .int .i64 t_115.2), (10, .int .i64 t_115.2), (9, v_116), (8, .int .i64 t_101.2), (7, v_102), (4, .pointer (some (⟨b_5, 0, .none⟩ : Addr))), (3, .pointer (some (⟨b_1, 0, .none⟩ : Addr)))]) S tys tys_ok 1 (by kernel_rfl) ?_; clear S; intro a S
        refine wpList_nil ?_
        exact RPost.mk_ S rfl S0 ⟨fun _ => rfl, fun k_ => absurd hc0 k_⟩ (Below.refl _ _)
      · have hl0 : (t_101.2 == 0) = false := Bool.eq_false_iff.2 hc0
        have S1 := S
        intro v_164 hF_165
        obtain rfl := cndF.neg hF_165 hc0
        replace S1 := S1.put (by decide : 52 < 76) (undef)
        intro v_167 hF_166; obtain rfl : .bool (t_101.2 == 0) = v_167 := Eq.symm hF_166
        replace S1 := S1.put (by decide : 51 < 76) (.bool (t_101.2 == 0))
        refine fill_nil S1 ?_; clear S1; intro a_ S1
        rw [show (t_101.2 == 0) = false from hl0] at S1
        have S0 := S.defers; replace S := S1; clear S1
        refine wl_pure (l' := [(53, undef), (51, .bool false), (52, undef), (10, .int .i64 t_115.2), (9, v_116), (8, .int .i64 t_101.2), (7, v_102), (4, .pointer (some (⟨b_5, 0, .none⟩ : Addr))), (3, .pointer (some (⟨b_1, 0, .none⟩ : Addr)))]) S tys tys_ok 1 (by kernel_rfl) ?_; clear S; intro a S
        refine wpList_nil ?_
        exact RPost.mk_ S rfl S0 ⟨fun k_ => absurd k_ hc0, fun _ => rfl⟩ (Below.refl _ _)
    refine RunAll.cons (eqv (.bool q_122)) [(eqv (.bool (t_101.2 == 0)), 51), (cndF (t_101.2 == 0) true (eqv (.bool (t_115.2 == 0))), 53)] rfl rfl ?_ ?_
    · intro W_ hW
      by_cases hc0 : (t_101.2 == 0) = true
      · have hl0 : (t_101.2 == 0) = true := hc0
        have S1 := S
        intro v_169 hF_168; obtain rfl : .bool (t_101.2 == 0) = v_169 := Eq.symm hF_168
        replace S1 := S1.put (by decide : 51 < 76) (.bool (t_101.2 == 0))
        intro v_170 hF_171
        replace hF_171 := cndF.pos hF_171 hc0
        revert hF_171
        revert v_170
        intro v_173 hF_172; obtain rfl : .bool (t_115.2 == 0) = v_173 := Eq.symm hF_172
        replace S1 := S1.put (by decide : 53 < 76) (.bool (t_115.2 == 0))
        refine fill_nil S1 ?_; clear S1; intro a_ S1
        rw [show (t_101.2 == 0) = true from hl0] at S1
        have S0 := S.defers; replace S := S1; clear S1
        refine wl_pure (l' := [(54, .bool (t_115.2 == 0)), (53, .bool (t_115.2 == 0)), (51, .bool true), (10, .int .i64 t_115.2), (9, v_116), (8, .int .i64 t_101.2), (7, v_102), (4, .pointer (some (⟨b_5, 0, .none⟩ : Addr))), (3, .pointer (some (⟨b_1, 0, .none⟩ : Addr)))]) S tys tys_ok 1 (by kernel_rfl) ?_; clear S; intro a S
        refine wpList_nil ?_
        exact RPost.mk_ S rfl S0 (congrArg Value.bool ((HG_123).1 hc0)) (Below.refl _ _)
      · have hl0 : (t_101.2 == 0) = false := Bool.eq_false_iff.2 hc0
        have S1 := S
        intro v_175 hF_174; obtain rfl : .bool (t_101.2 == 0) = v_175 := Eq.symm hF_174
        replace S1 := S1.put (by decide : 51 < 76) (.bool (t_101.2 == 0))
        intro v_176 hF_177
        obtain rfl := cndF.neg hF_177 hc0
        replace S1 := S1.put (by decide : 53 < 76) (undef)
        refine fill_nil S1 ?_; clear S1; intro a_ S1
        rw [show (t_101.2 == 0) = false from hl0] at S1
        have S0 := S.defers; replace S := S1; clear S1
        refine wl_pure (l' := [(54, .bool false), (53, undef), (51, .bool false), (10, .int .i64 t_115.2), (9, v_116), (8, .int .i64 t_101.2), (7, v_102), (4, .pointer (some (⟨b_5, 0, .none⟩ : Addr))), (3, .pointer (some (⟨b_1, 0, .none⟩ : Addr)))]) S tys tys_ok 1 (by kernel_rfl) ?_; clear S; intro a S
        refine wpList_nil ?_
        exact RPost.mk_ S rfl S0 (congrArg Value.bool ((HG_123).2 hc0)) (Below.refl _ _)
    refine RunAll.cons (eqv (.bool q_122)) [(eqv (.bool q_122), 54)] rfl rfl ?_ ?_
    · intro W_ hW
      have S1 := S
      intro v_179 hF_178; obtain rfl : .bool q_122 = v_179 := Eq.symm hF_178
      replace S1 := S1.put (by decide : 54 < 76) (.bool q_122)
      refine fill_nil S1 ?_; clear S1; intro a_ S1
      have S0 := S.defers; replace S := S1; clear S1
      refine wl_pure (l' := [(55, .bool q_122), (54, .bool q_122), (10, .int .i64 t_115.2), (9, v_116), (8, .int .i64 t_101.2), (7, v_102), (4, .pointer (some (⟨b_5, 0, .none⟩ : Addr))), (3, .pointer (some (⟨b_1, 0, .none⟩ : Addr)))]) S tys tys_ok 1 (by kernel_rfl) ?_; clear S; intro a S
      refine wpList_nil ?_
      exact RPost.mk_ S rfl S0 rfl (Below.refl _ _)
    refine RunAll.cons (cndF q_122 true (isRep (.sl (.int .u8)) (Kx K w.heap.size [some b_5, some b_1]) t_101.1)) [(eqv (.bool q_122), 55)] rfl rfl ?_ ?_
    · intro W_ hW
      by_cases hc1 : q_122 = true
      · have hl1 : q_122 = true := hc1
        have S1 := S
        intro v_181 hF_180; obtain rfl : .bool q_122 = v_181 := Eq.symm hF_180
        replace S1 := S1.put (by decide : 55 < 76) (.bool q_122)
        refine fill_nil S1 ?_; clear S1; intro a_ S1
        replace R_104 := R_104.step hW
        rw [show q_122 = true from hl1] at S1
        have S0 := S.defers; replace S := S1; clear S1
        refine wl_pure (l' := [(56, v_102), (55, .bool true), (10, .int .i64 t_115.2), (9, v_116), (8, .int .i64 t_101.2), (7, v_102), (4, .pointer (some (⟨b_5, 0, .none⟩ : Addr))), (3, .pointer (some (⟨b_1, 0, .none⟩ : Addr)))]) S tys tys_ok 1 (by kernel_rfl) ?_; clear S; intro a S
        refine wpList_nil ?_
        exact RPost.mk_ S rfl S0 ⟨fun _ => R_104, fun k_ => absurd hc1 k_⟩ (Below.refl _ _)
      · have hl1 : q_122 = false := Bool.eq_false_iff.2 hc1
        have S1 := S
        intro v_183 hF_182; obtain rfl : .bool q_122 = v_183 := Eq.symm hF_182
        replace S1 := S1.put (by decide : 55 < 76) (.bool q_122)
        refine fill_nil S1 ?_; clear S1; intro a_ S1
        rw [show q_122 = false from hl1] at S1
        have S0 := S.defers; replace S := S1; clear S1
        refine wl_pure (l' := [(56, undef), (55, .bool false), (10, .int .i64 t_115.2), (9, v_116), (8, .int .i64 t_101.2), (7, v_102), (4, .pointer (some (⟨b_5, 0, .none⟩ : Addr))), (3, .pointer (some (⟨b_1, 0, .none⟩ : Addr)))]) S tys tys_ok 1 (by kernel_rfl) ?_; clear S; intro a S
        refine wpList_nil ?_
        exact RPost.mk_ S rfl S0 ⟨fun k_ => absurd k_ hc1, fun _ => rfl⟩ (Below.refl _ _)
    refine RunAll.cons (cndF q_122 true (isI .i64 (lenI t_101.1))) [(cndF q_122 true (isRep (.sl (.int .u8)) (Kx K w.heap.size [some b_5, some b_1]) t_101.1), 56), (eqv (.bool q_122), 55)] rfl rfl ?_ ?_
    · intro W_ hW
      by_cases hc1 : q_122 = true
      · have hl1 : q_122 = true := hc1
        have S1 := S
        intro v_184 hF_185
        replace hF_185 := cndF.pos hF_185 hc1
        revert hF_185
        revert v_184
        intro v_187 hF_186; replace hF_186 : RepV _ _ _ _ _ := hF_186
        replace S1 := S1.put (by decide : 56 < 76) (v_187)
        intro v_189 hF_188; obtain rfl : .bool q_122 = v_189 := Eq.symm hF_188
        replace S1 := S1.put (by decide : 55 < 76) (.bool q_122)
        refine fill_nil S1 ?_; clear S1; intro a_ S1
        replace W := W.step hW
        rw [show q_122 = true from hl1] at S1
        have S0 := S.defers; replace S := S1; clear S1
        refine w_go S rfl (op_len (K := _) S rfl ty23 rfl rfl rfl hF_186 ?_)
        clear S; intro a G_190 S
        refine wpList_nil ?_
        exact RPost.mk_ S rfl S0 ⟨fun _ => ⟨rfl, G_190⟩, fun k_ => absurd hc1 k_⟩ (Below.refl _ _)
      · have hl1 : q_122 = false := Bool.eq_false_iff.2 hc1
        have S1 := S
        intro v_191 hF_192
        obtain rfl := cndF.neg hF_192 hc1
        replace S1 := S1.put (by decide : 56 < 76) (undef)
        intro v_194 hF_193; obtain rfl : .bool q_122 = v_194 := Eq.symm hF_193
        replace S1 := S1.put (by decide : 55 < 76) (.bool q_122)
        refine fill_nil S1 ?_; clear S1; intro a_ S1
        rw [show q_122 = false from hl1] at S1
        have S0 := S.defers; replace S := S1; clear S1
        refine wl_pure (l' := [(57, undef), (55, .bool false), (56, undef), (10, .int .i64 t_115.2), (9, v_116), (8, .int .i64 t_101.2), (7, v_102), (4, .pointer (some (⟨b_5, 0, .none⟩ : Addr))), (3, .pointer (some (⟨b_1, 0, .none⟩ : Addr)))]) S tys tys_ok 1 (by kernel_rfl) ?_; clear S; intro a S
        refine wpList_nil ?_
        exact RPost.mk_ S rfl S0 ⟨fun k_ => absurd k_ hc1, fun _ => rfl⟩ (Below.refl _ _)
    refine RunAll.cons (cndF q_122 true (eqv (.bool ((lenI t_101.1) == 18)))) [(cndF q_122 true (isI .i64 (lenI t_101.1)), 57), (eqv (.bool q_122), 55)] rfl rfl ?_ ?_
    · intro W_ hW
      by_cases hc1 : q_122 = true
      · have hl1 : q_122 = true := hc1
        have S1 := S
        intro v_195 hF_196
        replace hF_196 := cndF.pos hF_196 hc1
        revert hF_196
        revert v_195
        rintro _ ⟨rfl, hF_197⟩
        replace S1 := S1.put (by decide : 57 < 76) (.int .i64 (lenI t_101.1))
        intro v_200 hF_199; obtain rfl : .bool q_122 = v_200 := Eq.symm hF_199
        replace S1 := S1.put (by decide : 55 < 76) (.bool q_122)
        refine fill_nil S1 ?_; clear S1; intro a_ S1
        rw [show q_122 = true from hl1] at S1
        have S0 := S.defers; replace S := S1; clear S1
        refine wl_pure (l' := [(58, .bool ((lenI t_101.1) == 18)), (55, .bool true), (57, .int .i64 (lenI t_101.1)), (10, .int .i64 t_115.2), (9, v_116), (8, .int .i64 t_101.2), (7, v_102), (4, .pointer (some (⟨b_5, 0, .none⟩ : Addr))), (3, .pointer (some (⟨b_1, 0, .none⟩ : Addr)))]) S tys tys_ok 1 (by kernel_rfl) ?_; clear S; intro a S
        refine wpList_nil ?_
        exact RPost.mk_ S rfl S0 ⟨fun _ => rfl, fun k_ => absurd hc1 k_⟩ (Below.refl _ _)
      · have hl1 : q_122 = false := Bool.eq_false_iff.2 hc1
        have S1 := S
        intro v_201 hF_202
        obtain rfl := cndF.neg hF_202 hc1
        replace S1 := S1.put (by decide : 57 < 76) (undef)
        intro v_204 hF_203; obtain rfl : .bool q_122 = v_204 := Eq.symm hF_203
        replace S1 := S1.put (by decide : 55 < 76) (.bool q_122)
        refine fill_nil S1 ?_; clear S1; intro a_ S1
        rw [show q_122 = false from hl1] at S1
        have S0 := S.defers; replace S := S1; clear S1
        refine wl_pure (l' := [(58, undef), (55, .bool false), (57, undef), (10, .int .i64 t_115.2), (9, v_116), (8, .int .i64 t_101.2), (7, v_102), (4, .pointer (some (⟨b_5, 0, .none⟩ : Addr))), (3, .pointer (some (⟨b_1, 0, .none⟩ : Addr)))]) S tys tys_ok 1 (by kernel_rfl) ?_; clear S; intro a S
        refine wpList_nil ?_
        exact RPost.mk_ S rfl S0 ⟨fun k_ => absurd k_ hc1, fun _ => rfl⟩ (Below.refl _ _)
    refine RunAll.cons (eqv (.bool q_124)) [(eqv (.bool q_122), 55), (cndF q_122 true (eqv (.bool ((lenI t_101.1) == 18))), 58)] rfl rfl ?_ ?_
    · intro W_ hW
      by_cases hc1 : q_122 = true
      · have hl1 : q_122 = true := hc1
        have S1 := S
        intro v_206 hF_205; obtain rfl : .bool q_122 = v_206 := Eq.symm hF_205
        replace S1 := S1.put (by decide : 55 < 76) (.bool q_122)
        intro v_207 hF_208
        replace hF_208 := cndF.pos hF_208 hc1
        revert hF_208
        revert v_207
        intro v_210 hF_209; obtain rfl : .bool ((lenI t_101.1) == 18) = v_210 := Eq.symm hF_209
        replace S1 := S1.put (by decide : 58 < 76) (.bool ((lenI t_101.1) == 18))
        refine fill_nil S1 ?_; clear S1; intro a_ S1
        rw [show q_122 = true from hl1] at S1
        have S0 := S.defers; replace S := S1; clear S1
        refine wl_pure (l' := [(59, .bool ((lenI t_101.1) == 18)), (58, .bool ((lenI t_101.1) == 18)), (55, .bool true), (10, .int .i64 t_115.2), (9, v_116), (8, .int .i64 t_101.2), (7, v_102), (4, .pointer (some (⟨b_5, 0, .none⟩ : Addr))), (3, .pointer (some (⟨b_1, 0, .none⟩ : Addr)))]) S tys tys_ok 1 (by kernel_rfl) ?_; clear S; intro a S
        refine wpList_nil ?_
        exact RPost.mk_ S rfl S0 (congrArg Value.bool ((HG_125).1 hc1)) (Below.refl _ _)
      · have hl1 : q_122 = false := Bool.eq_false_iff.2 hc1
        have S1 := S
        intro v_212 hF_211; obtain rfl : .bool q_122 = v_212 := Eq.symm hF_211
        replace S1 := S1.put (by decide : 55 < 76) (.bool q_122)
        intro v_213 hF_214
        obtain rfl := cndF.neg hF_214 hc1
        replace S1 := S1.put (by decide : 58 < 76) (undef)
        refine fill_nil S1 ?_; clear S1; intro a_ S1
        rw [show q_122 = false from hl1] at S1
        have S0 := S.defers; replace S := S1; clear S1
        refine wl_pure (l' := [(59, .bool false), (58, undef), (55, .bool false), (10, .int .i64 t_115.2), (9, v_116), (8, .int .i64 t_101.2), (7, v_102), (4, .pointer (some (⟨b_5, 0, .none⟩ : Addr))), (3, .pointer (some (⟨b_1, 0, .none⟩ : Addr)))]) S tys tys_ok 1 (by kernel_rfl) ?_; clear S; intro a S
        refine wpList_nil ?_
        exact RPost.mk_ S rfl S0 (congrArg Value.bool ((HG_125).2 hc1)) (Below.refl _ _)
    refine RunAll.cons (eqv (.bool q_124)) [(eqv (.bool q_124), 59)] rfl rfl ?_ ?_
    · intro W_ hW
      have S1 := S
      intro v_216 hF_215; obtain rfl : .bool q_124 = v_216 := Eq.symm hF_215
      replace S1 := S1.put (by decide : 59 < 76) (.bool q_124)
      refine fill_nil S1 ?_; clear S1; intro a_ S1
      have S0 := S.defers; replace S := S1; clear S1
      refine wl_pure (l' := [(60, .bool q_124), (59, .bool q_124), (10, .int .i64 t_115.2), (9, v_116), (8, .int .i64 t_101.2), (7, v_102), (4, .pointer (some (⟨b_5, 0, .none⟩ : Addr))), (3, .pointer (some (⟨b_1, 0, .none⟩ : Addr)))]) S tys tys_ok 1 (by kernel_rfl) ?_; clear S; intro a S
      refine wpList_nil ?_
      exact RPost.mk_ S rfl S0 rfl (Below.refl _ _)
    refine RunAll.cons (cndF q_124 true (isRep (.sl (.int .u8)) (Kx K w.heap.size [some b_5, some b_1]) t_101.1)) [(eqv (.bool q_124), 60)] rfl rfl ?_ ?_
    · intro W_ hW
      by_cases hc2 : q_124 = true
      · have hl2 : q_124 = true := hc2
        have S1 := S
        intro v_218 hF_217; obtain rfl : .bool q_124 = v_218 := Eq.symm hF_217
        replace S1 := S1.put (by decide : 60 < 76) (.bool q_124)
        refine fill_nil S1 ?_; clear S1; intro a_ S1
        replace R_104 := R_104.step hW
        rw [show q_124 = true from hl2] at S1
        have S0 := S.defers; replace S := S1; clear S1
        refine wl_pure (l' := [(61, v_102), (60, .bool true), (10, .int .i64 t_115.2), (9, v_116), (8, .int .i64 t_101.2), (7, v_102), (4, .pointer (some (⟨b_5, 0, .none⟩ : Addr))), (3, .pointer (some (⟨b_1, 0, .none⟩ : Addr)))]) S tys tys_ok 1 (by kernel_rfl) ?_; clear S; intro a S
        refine wpList_nil ?_
        exact RPost.mk_ S rfl S0 ⟨fun _ => R_104, fun k_ => absurd hc2 k_⟩ (Below.refl _ _)
      · have hl2 : q_124 = false := Bool.eq_false_iff.2 hc2
        have S1 := S
        intro v_220 hF_219; obtain rfl : .bool q_124 = v_220 := Eq.symm hF_219
        replace S1 := S1.put (by decide : 60 < 76) (.bool q_124)
        refine fill_nil S1 ?_; clear S1; intro a_ S1
        rw [show q_124 = false from hl2] at S1
        have S0 := S.defers; replace S := S1; clear S1
        refine wl_pure (l' := [(61, undef), (60, .bool false), (10, .int .i64 t_115.2), (9, v_116), (8, .int .i64 t_101.2), (7, v_102), (4, .pointer (some (⟨b_5, 0, .none⟩ : Addr))), (3, .pointer (some (⟨b_1, 0, .none⟩ : Addr)))]) S tys tys_ok 1 (by kernel_rfl) ?_; clear S; intro a S
        refine wpList_nil ?_
        exact RPost.mk_ S rfl S0 ⟨fun k_ => absurd k_ hc2, fun _ => rfl⟩ (Below.refl _ _)
    refine RunAll.cons (cndF q_124 true (isS t_101.1.xs)) [(cndF q_124 true (isRep (.sl (.int .u8)) (Kx K w.heap.size [some b_5, some b_1]) t_101.1), 61), (eqv (.bool q_124), 60)] rfl rfl ?_ ?_
    · intro W_ hW
      by_cases hc2 : q_124 = true
      · have hl2 : q_124 = true := hc2
        have S1 := S
        intro v_221 hF_222
        replace hF_222 := cndF.pos hF_222 hc2
        revert hF_222
        revert v_221
        intro v_224 hF_223; replace hF_223 : RepV _ _ _ _ _ := hF_223
        replace S1 := S1.put (by decide : 61 < 76) (v_224)
        intro v_226 hF_225; obtain rfl : .bool q_124 = v_226 := Eq.symm hF_225
        replace S1 := S1.put (by decide : 60 < 76) (.bool q_124)
        refine fill_nil S1 ?_; clear S1; intro a_ S1
        replace W := W.step hW
        rw [show q_124 = true from hl2] at S1
        have S0 := S.defers; replace S := S1; clear S1
        obtain ⟨et_131, et_138, _⟩ := (HG_128).1 hc2
        refine w_go S rfl (op_str (K := _) S rfl ty23 ty9 rfl rfl rfl hF_223 ?_)
        clear S; intro a S
        refine wpList_nil ?_
        exact RPost.mk_ S rfl S0 ⟨fun _ => ⟨rfl, hF_223.byt⟩, fun k_ => absurd hc2 k_⟩ (Below.refl _ _)
      · have hl2 : q_124 = false := Bool.eq_false_iff.2 hc2
        have S1 := S
        intro v_227 hF_228
        obtain rfl := cndF.neg hF_228 hc2
        replace S1 := S1.put (by decide : 61 < 76) (undef)
        intro v_230 hF_229; obtain rfl : .bool q_124 = v_230 := Eq.symm hF_229
        replace S1 := S1.put (by decide : 60 < 76) (.bool q_124)
        refine fill_nil S1 ?_; clear S1; intro a_ S1
        rw [show q_124 = false from hl2] at S1
        have S0 := S.defers; replace S := S1; clear S1
        refine wl_pure (l' := [(62, undef), (60, .bool false), (61, undef), (10, .int .i64 t_115.2), (9, v_116), (8, .int .i64 t_101.2), (7, v_102), (4, .pointer (some (⟨b_5, 0, .none⟩ : Addr))), (3, .pointer (some (⟨b_1, 0, .none⟩ : Addr)))]) S tys tys_ok 1 (by kernel_rfl) ?_; clear S; intro a S
        refine wpList_nil ?_
        exact RPost.mk_ S rfl S0 ⟨fun k_ => absurd k_ hc2, fun _ => rfl⟩ (Below.refl _ _)
    refine RunAll.cons (cndF q_124 true (isRep (.sl (.int .u8)) (Kx K w.heap.size [some b_5, some b_1]) t_115.1)) [(eqv (.bool q_124), 60)] rfl rfl ?_ ?_
    · intro W_ hW
      by_cases hc2 : q_124 = true
      · have hl2 : q_124 = true := hc2
        have S1 := S
        intro v_232 hF_231; obtain rfl : .bool q_124 = v_232 := Eq.symm hF_231
        replace S1 := S1.put (by decide : 60 < 76) (.bool q_124)
        refine fill_nil S1 ?_; clear S1; intro a_ S1
        replace R_118 := R_118.step hW
        rw [show q_124 = true from hl2] at S1
        have S0 := S.defers; replace S := S1; clear S1
        refine wl_pure (l' := [(63, v_116), (60, .bool true), (10, .int .i64 t_115.2), (9, v_116), (8, .int .i64 t_101.2), (7, v_102), (4, .pointer (some (⟨b_5, 0, .none⟩ : Addr))), (3, .pointer (some (⟨b_1, 0, .none⟩ : Addr)))]) S tys tys_ok 1 (by kernel_rfl) ?_; clear S; intro a S
        refine wpList_nil ?_
        exact RPost.mk_ S rfl S0 ⟨fun _ => R_118, fun k_ => absurd hc2 k_⟩ (Below.refl _ _)
      · have hl2 : q_124 = false := Bool.eq_false_iff.2 hc2
        have S1 := S
        intro v_234 hF_233; obtain rfl : .bool q_124 = v_234 := Eq.symm hF_233
        replace S1 := S1.put (by decide : 60 < 76) (.bool q_124)
        refine fill_nil S1 ?_; clear S1; intro a_ S1
        rw [show q_124 = false from hl2] at S1
        have S0 := S.defers; replace S := S1; clear S1
        refine wl_pure (l' := [(63, undef), (60, .bool false), (10, .int .i64 t_115.2), (9, v_116), (8, .int .i64 t_101.2), (7, v_102), (4, .pointer (some (⟨b_5, 0, .none⟩ : Addr))), (3, .pointer (some (⟨b_1, 0, .none⟩ : Addr)))]) S tys tys_ok 1 (by kernel_rfl) ?_; clear S; intro a S
        refine wpList_nil ?_
        exact RPost.mk_ S rfl S0 ⟨fun k_ => absurd k_ hc2, fun _ => rfl⟩ (Below.refl _ _)
    refine RunAll.cons (cndF q_124 true (isS t_115.1.xs)) [(cndF q_124 true (isRep (.sl (.int .u8)) (Kx K w.heap.size [some b_5, some b_1]) t_115.1), 63), (eqv (.bool q_124), 60)] rfl rfl ?_ ?_
    · intro W_ hW
      by_cases hc2 : q_124 = true
      · have hl2 : q_124 = true := hc2
        have S1 := S
        intro v_235 hF_236
        replace hF_236 := cndF.pos hF_236 hc2
        revert hF_236
        revert v_235
        intro v_238 hF_237; replace hF_237 : RepV _ _ _ _ _ := hF_237
        replace S1 := S1.put (by decide : 63 < 76) (v_238)
        intro v_240 hF_239; obtain rfl : .bool q_124 = v_240 := Eq.symm hF_239
        replace S1 := S1.put (by decide : 60 < 76) (.bool q_124)
        refine fill_nil S1 ?_; clear S1; intro a_ S1
        replace W := W.step hW
        rw [show q_124 = true from hl2] at S1
        have S0 := S.defers; replace S := S1; clear S1
        obtain ⟨et_131, et_138, _⟩ := (HG_128).1 hc2
        refine w_go S rfl (op_str (K := _) S rfl ty23 ty9 rfl rfl rfl hF_237 ?_)
        clear S; intro a S
        refine wpList_nil ?_
        exact RPost.mk_ S rfl S0 ⟨fun _ => ⟨rfl, hF_237.byt⟩, fun k_ => absurd hc2 k_⟩ (Below.refl _ _)
      · have hl2 : q_124 = false := Bool.eq_false_iff.2 hc2
        have S1 := S
        intro v_241 hF_242
        obtain rfl := cndF.neg hF_242 hc2
        replace S1 := S1.put (by decide : 63 < 76) (undef)
        intro v_244 hF_243; obtain rfl : .bool q_124 = v_244 := Eq.symm hF_243
        replace S1 := S1.put (by decide : 60 < 76) (.bool q_124)
        refine fill_nil S1 ?_; clear S1; intro a_ S1
        rw [show q_124 = false from hl2] at S1
        have S0 := S.defers; replace S := S1; clear S1
        refine wl_pure (l' := [(64, undef), (60, .bool false), (63, undef), (10, .int .i64 t_115.2), (9, v_116), (8, .int .i64 t_101.2), (7, v_102), (4, .pointer (some (⟨b_5, 0, .none⟩ : Addr))), (3, .pointer (some (⟨b_1, 0, .none⟩ : Addr)))]) S tys tys_ok 1 (by kernel_rfl) ?_; clear S; intro a S
        refine wpList_nil ?_
        exact RPost.mk_ S rfl S0 ⟨fun k_ => absurd k_ hc2, fun _ => rfl⟩ (Below.refl _ _)
    refine RunAll.cons (cndF q_124 true (eqv (.bool (decide (t_101.1.xs = t_115.1.xs))))) [(cndF q_124 true (isS t_101.1.xs), 62), (cndF q_124 true (isS t_115.1.xs), 64), (eqv (.bool q_124), 60)] rfl rfl ?_ ?_
    · intro W_ hW
      by_cases hc2 : q_124 = true
      · have hl2 : q_124 = true := hc2
        have S1 := S
        intro v_245 hF_246
        replace hF_246 := cndF.pos hF_246 hc2
        revert hF_246
        revert v_245
        rintro _ ⟨rfl, hF_247⟩
        replace S1 := S1.put (by decide : 62 < 76) (.string (strOfNums t_101.1.xs))
        intro v_249 hF_250
        replace hF_250 := cndF.pos hF_250 hc2
        revert hF_250
        revert v_249
        rintro _ ⟨rfl, hF_251⟩
        replace S1 := S1.put (by decide : 64 < 76) (.string (strOfNums t_115.1.xs))
        intro v_254 hF_253; obtain rfl : .bool q_124 = v_254 := Eq.symm hF_253
        replace S1 := S1.put (by decide : 60 < 76) (.bool q_124)
        refine fill_nil S1 ?_; clear S1; intro a_ S1
        rw [show q_124 = true from hl2] at S1
        have S0 := S.defers; replace S := S1; clear S1
        obtain ⟨et_131, et_138, _⟩ := (HG_128).1 hc2
        refine w_go S rfl (op_streq S rfl rfl rfl rfl rfl (hF_247).1 (hF_251).1 ?_)
        clear S; intro a S
        refine wpList_nil ?_
        exact RPost.mk_ S rfl S0 ⟨fun _ => rfl, fun k_ => absurd hc2 k_⟩ (Below.refl _ _)
      · have hl2 : q_124 = false := Bool.eq_false_iff.2 hc2
        have S1 := S
        intro v_255 hF_256
        obtain rfl := cndF.neg hF_256 hc2
        replace S1 := S1.put (by decide : 62 < 76) (undef)
        intro v_257 hF_258
        obtain rfl := cndF.neg hF_258 hc2
        replace S1 := S1.put (by decide : 64 < 76) (undef)
        intro v_260 hF_259; obtain rfl : .bool q_124 = v_260 := Eq.symm hF_259
        replace S1 := S1.put (by decide : 60 < 76) (.bool q_124)
        refine fill_nil S1 ?_; clear S1; intro a_ S1
        rw [show q_124 = false from hl2] at S1
        have S0 := S.defers; replace S := S1; clear S1
        refine wl_pure (l' := [(65, undef), (60, .bool false), (64, undef), (62, undef), (10, .int .i64 t_115.2), (9, v_116), (8, .int .i64 t_101.2), (7, v_102), (4, .pointer (some (⟨b_5, 0, .none⟩ : Addr))), (3, .pointer (some (⟨b_1, 0, .none⟩ : Addr)))]) S tys tys_ok 1 (by kernel_rfl) ?_; clear S; intro a S
        refine wpList_nil ?_
        exact RPost.mk_ S rfl S0 ⟨fun k_ => absurd k_ hc2, fun _ => rfl⟩ (Below.refl _ _)
    refine RunAll.cons (cndF q_124 true (isRep (.st (.pair (.int .u8) (.pair (.int .u8) (.pair (.int .u8) (.pair (.int .u8) (.arr 3 (.int .u16))))))) (Kx K w.heap.size [some b_5, some b_1]) x0)) [(eqv (.bool q_124), 60)] rfl rfl ?_ ?_
    · intro W_ hW
      by_cases hc2 : q_124 = true
      · have hl2 : q_124 = true := hc2
        have S1 := S
        intro v_262 hF_261; obtain rfl : .bool q_124 = v_262 := Eq.symm hF_261
        replace S1 := S1.put (by decide : 60 < 76) (.bool q_124)
        refine fill_nil S1 ?_; clear S1; intro a_ S1
        replace B_2 := B_2.step hW
        rw [show q_124 = true from hl2] at S1
        have S0 := S.defers; replace S := S1; clear S1
        obtain ⟨et_131, et_138, _⟩ := (HG_128).1 hc2
        refine w_go S rfl (op_load (t := (.st (.pair (.int .u8) (.pair (.int .u8) (.pair (.int .u8) (.pair (.int .u8) (.arr 3 (.int .u16)))))))) (x := x0) S rfl ty43 rfl rfl rfl B_2.at_ ?_)
        clear S; intro a v_263 R_264 S
        refine wpList_nil ?_
        exact RPost.mk_ S rfl S0 ⟨fun _ => R_264, fun k_ => absurd hc2 k_⟩ (Below.refl _ _)
      · have hl2 : q_124 = false := Bool.eq_false_iff.2 hc2
        have S1 := S
        intro v_266 hF_265; obtain rfl : .bool q_124 = v_266 := Eq.symm hF_265
        replace S1 := S1.put (by decide : 60 < 76) (.bool q_124)
        refine fill_nil S1 ?_; clear S1; intro a_ S1
        rw [show q_124 = false from hl2] at S1
        have S0 := S.defers; replace S := S1; clear S1
        refine wl_pure (l' := [(66, undef), (60, .bool false), (10, .int .i64 t_115.2), (9, v_116), (8, .int .i64 t_101.2), (7, v_102), (4, .pointer (some (⟨b_5, 0, .none⟩ : Addr))), (3, .pointer (some (⟨b_1, 0, .none⟩ : Addr)))]) S tys tys_ok 1 (by kernel_rfl) ?_; clear S; intro a S
        refine wpList_nil ?_
        exact RPost.mk_ S rfl S0 ⟨fun k_ => absurd k_ hc2, fun _ => rfl⟩ (Below.refl _ _)
    refine RunAll.cons (cndF q_124 true (isRep (.st (.pair (.int .u16) (.pair (.int .u8) (.pair (.int .u8) (.pair (.int .u8) (.pair (.int .u8) (.pair (.int .u16) (.pair (.int .u16) (.pair (.int .u16) (.pair (.int .u8) (.pair (.int .u8) (.pair (.int .u8) (.int .u8))))))))))))) (Kx K w.heap.size [some b_5, some b_1]) t_131)) [(cndF q_124 true (isRep (.st (.pair (.int .u8) (.pair (.int .u8) (.pair (.int .u8) (.pair (.int .u8) (.arr 3 (.int .u16))))))) (Kx K w.heap.size [some b_5, some b_1]) x0), 66), (eqv (.bool q_124), 60)] rfl rfl ?_ ?_
    · intro W_ hW
      by_cases hc2 : q_124 = true
      · have hl2 : q_124 = true := hc2
        have S1 := S
        intro v_267 hF_268
        replace hF_268 := cndF.pos hF_268 hc2
        revert hF_268
        revert v_267
        intro v_270 hF_269; replace hF_269 : RepV _ _ _ _ _ := hF_269
        replace S1 := S1.put (by decide : 66 < 76) (v_270)
        intro v_272 hF_271; obtain rfl : .bool q_124 = v_272 := Eq.symm hF_271
        replace S1 := S1.put (by decide : 60 < 76) (.bool q_124)
        refine fill_nil S1 ?_; clear S1; intro a_ S1
        replace W := W.step hW
        rw [show q_124 = true from hl2] at S1
        have S0 := S.defers; replace S := S1; clear S1
        obtain ⟨et_131, et_138, _⟩ := (HG_128).1 hc2
        refine w_go S rfl (op_call (vs := [v_270]) S rfl cb17 rfl rfl rfl (c17 (Kx K w.heap.size [some b_5, some b_1]) n W_ x0 _ hF_269 et_131) ?_)
        rintro _ w_276 ⟨v_273, rfl, R_274, hb_275⟩; refine ⟨_, rfl, ?_⟩
        replace R_274 := RepV.back R_274 W
        clear S; intro a S
        refine wpList_nil ?_
        exact RPost.mk_ S rfl S0 ⟨fun _ => R_274, fun k_ => absurd hc2 k_⟩ (hb_275)
      · have hl2 : q_124 = false := Bool.eq_false_iff.2 hc2
        have S1 := S
        intro v_277 hF_278
        obtain rfl := cndF.neg hF_278 hc2
        replace S1 := S1.put (by decide : 66 < 76) (undef)
        intro v_280 hF_279; obtain rfl : .bool q_124 = v_280 := Eq.symm hF_279
        replace S1 := S1.put (by decide : 60 < 76) (.bool q_124)
        refine fill_nil S1 ?_; clear S1; intro a_ S1
        rw [show q_124 = false from hl2] at S1
        have S0 := S.defers; replace S := S1; clear S1
        refine wl_pure (l' := [(67, undef), (60, .bool false), (66, undef), (10, .int .i64 t_115.2), (9, v_116), (8, .int .i64 t_101.2), (7, v_102), (4, .pointer (some (⟨b_5, 0, .none⟩ : Addr))), (3, .pointer (some (⟨b_1, 0, .none⟩ : Addr)))]) S tys tys_ok 1 (by kernel_rfl) ?_; clear S; intro a S
        refine wpList_nil ?_
        exact RPost.mk_ S rfl S0 ⟨fun k_ => absurd k_ hc2, fun _ => rfl⟩ (Below.refl _ _)
    refine RunAll.cons (cndF q_124 true (isRep (.st (.pair (.int .u8) (.pair (.int .u8) (.pair (.int .u8) (.pair (.int .u8) (.arr 3 (.int .u16))))))) (Kx K w.heap.size [some b_5, some b_1]) j_57)) [(eqv (.bool q_124), 60)] rfl rfl ?_ ?_
    · intro W_ hW
      by_cases hc2 : q_124 = true
      · have hl2 : q_124 = true := hc2
        have S1 := S
        intro v_282 hF_281; obtain rfl : .bool q_124 = v_282 := Eq.symm hF_281
        replace S1 := S1.put (by decide : 60 < 76) (.bool q_124)
        refine fill_nil S1 ?_; clear S1; intro a_ S1
        replace B_6 := B_6.step hW
        rw [show q_124 = true from hl2] at S1
        have S0 := S.defers; replace S := S1; clear S1
        obtain ⟨et_131, et_138, _⟩ := (HG_128).1 hc2
        refine w_go S rfl (op_load (t := (.st (.pair (.int .u8) (.pair (.int .u8) (.pair (.int .u8) (.pair (.int .u8) (.arr 3 (.int .u16)))))))) (x := j_57) S rfl ty43 rfl rfl rfl B_6.at_ ?_)
        clear S; intro a v_283 R_284 S
        refine wpList_nil ?_
        exact RPost.mk_ S rfl S0 ⟨fun _ => R_284, fun k_ => absurd hc2 k_⟩ (Below.refl _ _)
      · have hl2 : q_124 = false := Bool.eq_false_iff.2 hc2
        have S1 := S
        intro v_286 hF_285; obtain rfl : .bool q_124 = v_286 := Eq.symm hF_285
        replace S1 := S1.put (by decide : 60 < 76) (.bool q_124)
        refine fill_nil S1 ?_; clear S1; intro a_ S1
        rw [show q_124 = false from hl2] at S1
        have S0 := S.defers; replace S := S1; clear S1
        refine wl_pure (l' := [(68, undef), (60, .bool false), (10, .int .i64 t_115.2), (9, v_116), (8, .int .i64 t_101.2), (7, v_102), (4, .pointer (some (⟨b_5, 0, .none⟩ : Addr))), (3, .pointer (some (⟨b_1, 0, .none⟩ : Addr)))]) S tys tys_ok 1 (by kernel_rfl) ?_; clear S; intro a S
        refine wpList_nil ?_
        exact RPost.mk_ S rfl S0 ⟨fun k_ => absurd k_ hc2, fun _ => rfl⟩ (Below.refl _ _)
    refine RunAll.cons (cndF q_124 true (isRep (.st (.pair (.int .u16) (.pair (.int .u8) (.pair (.int .u8) (.pair (.int .u8) (.pair (.int .u8) (.pair (.int .u16) (.pair (.int .u16) (.pair (.int .u16) (.pair (.int .u8) (.pair (.int .u8) (.pair (.int .u8) (.int .u8))))))))))))) (Kx K w.heap.size [some b_5, some b_1]) t_138)) [(cndF q_124 true (isRep (.st (.pair (.int .u8) (.pair (.int .u8) (.pair (.int .u8) (.pair (.int .u8) (.arr 3 (.int .u16))))))) (Kx K w.heap.size [some b_5, some b_1]) j_57), 68), (eqv (.bool q_124), 60)] rfl rfl ?_ ?_
    · intro W_ hW
      by_cases hc2 : q_124 = true
      · have hl2 : q_124 = true := hc2
        have S1 := S
        intro v_287 hF_288
        replace hF_288 := cndF.pos hF_288 hc2
        revert hF_288
        revert v_287
        intro v_290 hF_289; replace hF_289 : RepV _ _ _ _ _ := hF_289
        replace S1 := S1.put (by decide : 68 < 76) (v_290)
        intro v_292 hF_291; obtain rfl : .bool q_124 = v_292 := Eq.symm hF_291
        replace S1 := S1.put (by decide : 60 < 76) (.bool q_124)
        refine fill_nil S1 ?_; clear S1; intro a_ S1
        replace W := W.step hW
        rw [show q_124 = true from hl2] at S1
        have S0 := S.defers; replace S := S1; clear S1
        obtain ⟨et_131, et_138, _⟩ := (HG_128).1 hc2
        refine w_go S rfl (op_call (vs := [v_290]) S rfl cb17 rfl rfl rfl (c17 (Kx K w.heap.size [some b_5, some b_1]) n W_ j_57 _ hF_289 et_138) ?_)
        rintro _ w_296 ⟨v_293, rfl, R_294, hb_295⟩; refine ⟨_, rfl, ?_⟩
        replace R_294 := RepV.back R_294 W
        clear S; intro a S
        refine wpList_nil ?_
        exact RPost.mk_ S rfl S0 ⟨fun _ => R_294, fun k_ => absurd hc2 k_⟩ (hb_295)
      · have hl2 : q_124 = false := Bool.eq_false_iff.2 hc2
        have S1 := S
        intro v_297 hF_298
        obtain rfl := cndF.neg hF_298 hc2
        replace S1 := S1.put (by decide : 68 < 76) (undef)
        intro v_300 hF_299; obtain rfl : .bool q_124 = v_300 := Eq.symm hF_299
        replace S1 := S1.put (by decide : 60 < 76) (.bool q_124)
        refine fill_nil S1 ?_; clear S1; intro a_ S1
        rw [show q_124 = false from hl2] at S1
        have S0 := S.defers; replace S := S1; clear S1
        refine wl_pure (l' := [(69, undef), (60, .bool false), (68, undef), (10, .int .i64 t_115.2), (9, v_116), (8, .int .i64 t_101.2), (7, v_102), (4, .pointer (some (⟨b_5, 0, .none⟩ : Addr))), (3, .pointer (some (⟨b_1, 0, .none⟩ : Addr)))]) S tys tys_ok 1 (by kernel_rfl) ?_; clear S; intro a S
        refine wpList_nil ?_
        exact RPost.mk_ S rfl S0 ⟨fun k_ => absurd k_ hc2, fun _ => rfl⟩ (Below.refl _ _)
    refine RunAll.cons (cndF q_124 true (eqv (.bool (eqP (.pair (.int .u16) (.pair (.int .u8) (.pair (.int .u8) (.pair (.int .u8) (.pair (.int .u8) (.pair (.int .u16) (.pair (.int .u16) (.pair (.int .u16) (.pair (.int .u8) (.pair (.int .u8) (.pair (.int .u8) (.int .u8)))))))))))) t_131 t_138)))) [(cndF q_124 true (isRep (.st (.pair (.int .u16) (.pair (.int .u8) (.pair (.int .u8) (.pair (.int .u8) (.pair (.int .u8) (.pair (.int .u16) (.pair (.int .u16) (.pair (.int .u16) (.pair (.int .u8) (.pair (.int .u8) (.pair (.int .u8) (.int .u8))))))))))))) (Kx K w.heap.size [some b_5, some b_1]) t_131), 67), (cndF q_124 true (isRep (.st (.pair (.int .u16) (.pair (.int .u8) (.pair (.int .u8) (.pair (.int .u8) (.pair (.int .u8) (.pair (.int .u16) (.pair (.int .u16) (.pair (.int .u16) (.pair (.int .u8) (.pair (.int .u8) (.pair (.int .u8) (.int .u8))))))))))))) (Kx K w.heap.size [some b_5, some b_1]) t_138), 69), (eqv (.bool q_124), 60)] rfl rfl ?_ ?_
    · intro W_ hW
      by_cases hc2 : q_124 = true
      · have hl2 : q_124 = true := hc2
        have S1 := S
        intro v_301 hF_302
        replace hF_302 := cndF.pos hF_302 hc2
        revert hF_302
        revert v_301
        intro v_304 hF_303; replace hF_303 : RepV _ _ _ _ _ := hF_303
        replace S1 := S1.put (by decide : 67 < 76) (v_304)
        intro v_305 hF_306
        replace hF_306 := cndF.pos hF_306 hc2
        revert hF_306
        revert v_305
        intro v_308 hF_307; replace hF_307 : RepV _ _ _ _ _ := hF_307
        replace S1 := S1.put (by decide : 69 < 76) (v_308)
        intro v_310 hF_309; obtain rfl : .bool q_124 = v_310 := Eq.symm hF_309
        replace S1 := S1.put (by decide : 60 < 76) (.bool q_124)
        refine fill_nil S1 ?_; clear S1; intro a_ S1
        rw [show q_124 = true from hl2] at S1
        have S0 := S.defers; replace S := S1; clear S1
        obtain ⟨et_131, et_138, _⟩ := (HG_128).1 hc2
        refine w_go S rfl (op_steql (t := (.pair (.int .u16) (.pair (.int .u8) (.pair (.int .u8) (.pair (.int .u8) (.pair (.int .u8) (.pair (.int .u16) (.pair (.int .u16) (.pair (.int .u16) (.pair (.int .u8) (.pair (.int .u8) (.pair (.int .u8) (.int .u8))))))))))))) (m := t_131) (n := t_138) S rfl rfl rfl rfl rfl rfl ty47 eq47 hF_303 hF_307 ?_)
        clear S; intro a S
        refine wpList_nil ?_
        exact RPost.mk_ S rfl S0 ⟨fun _ => rfl, fun k_ => absurd hc2 k_⟩ (Below.refl _ _)
      · have hl2 : q_124 = false := Bool.eq_false_iff.2 hc2
        have S1 := S
        intro v_311 hF_312
        obtain rfl := cndF.neg hF_312 hc2
        replace S1 := S1.put (by decide : 67 < 76) (undef)
        intro v_313 hF_314
        obtain rfl := cndF.neg hF_314 hc2
        replace S1 := S1.put (by decide : 69 < 76) (undef)
        intro v_316 hF_315; obtain rfl : .bool q_124 = v_316 := Eq.symm hF_315
        replace S1 := S1.put (by decide : 60 < 76) (.bool q_124)
        refine fill_nil S1 ?_; clear S1; intro a_ S1
        rw [show q_124 = false from hl2] at S1
        have S0 := S.defers; replace S := S1; clear S1
        refine wl_pure (l' := [(70, undef), (60, .bool false), (69, undef), (67, undef), (10, .int .i64 t_115.2), (9, v_116), (8, .int .i64 t_101.2), (7, v_102), (4, .pointer (some (⟨b_5, 0, .none⟩ : Addr))), (3, .pointer (some (⟨b_1, 0, .none⟩ : Addr)))]) S tys tys_ok 1 (by kernel_rfl) ?_; clear S; intro a S
        refine wpList_nil ?_
        exact RPost.mk_ S rfl S0 ⟨fun k_ => absurd k_ hc2, fun _ => rfl⟩ (Below.refl _ _)
    refine RunAll.cons (cndF q_124 true (eqv (.bool ((decide (t_101.1.xs = t_115.1.xs)) == (eqP (.pair (.int .u16) (.pair (.int .u8) (.pair (.int .u8) (.pair (.int .u8) (.pair (.int .u8) (.pair (.int .u16) (.pair (.int .u16) (.pair (.int .u16) (.pair (.int .u8) (.pair (.int .u8) (.pair (.int .u8) (.int .u8)))))))))))) t_131 t_138))))) [(cndF q_124 true (eqv (.bool (decide (t_101.1.xs = t_115.1.xs)))), 65), (cndF q_124 true (eqv (.bool (eqP (.pair (.int .u16) (.pair (.int .u8) (.pair (.int .u8) (.pair (.int .u8) (.pair (.int .u8) (.pair (.int .u16) (.pair (.int .u16) (.pair (.int .u16) (.pair (.int .u8) (.pair (.int .u8) (.pair (.int .u8) (.int .u8)))))))))))) t_131 t_138))), 70), (eqv (.bool q_124), 60)] rfl rfl ?_ ?_
    · intro W_ hW
      by_cases hc2 : q_124 = true
      · have hl2 : q_124 = true := hc2
        have S1 := S
        intro v_317 hF_318
        replace hF_318 := cndF.pos hF_318 hc2
        revert hF_318
        revert v_317
        intro v_320 hF_319; obtain rfl : .bool (decide (t_101.1.xs = t_115.1.xs)) = v_320 := Eq.symm hF_319
        replace S1 := S1.put (by decide : 65 < 76) (.bool (decide (t_101.1.xs = t_115.1.xs)))
        intro v_321 hF_322
        replace hF_322 := cndF.pos hF_322 hc2
        revert hF_322
        revert v_321
        intro v_324 hF_323; obtain rfl : .bool (eqP (.pair (.int .u16) (.pair (.int .u8) (.pair (.int .u8) (.pair (.int .u8) (.pair (.int .u8) (.pair (.int .u16) (.pair (.int .u16) (.pair (.int .u16) (.pair (.int .u8) (.pair (.int .u8) (.pair (.int .u8) (.int .u8)))))))))))) t_131 t_138) = v_324 := Eq.symm hF_323
        replace S1 := S1.put (by decide : 70 < 76) (.bool (eqP (.pair (.int .u16) (.pair (.int .u8) (.pair (.int .u8) (.pair (.int .u8) (.pair (.int .u8) (.pair (.int .u16) (.pair (.int .u16) (.pair (.int .u16) (.pair (.int .u8) (.pair (.int .u8) (.pair (.int .u8) (.int .u8)))))))))))) t_131 t_138))
        intro v_326 hF_325; obtain rfl : .bool q_124 = v_326 := Eq.symm hF_325
        replace S1 := S1.put (by decide : 60 < 76) (.bool q_124)
        refine fill_nil S1 ?_; clear S1; intro a_ S1
        rw [show q_124 = true from hl2] at S1
        have S0 := S.defers; replace S := S1; clear S1
        refine wl_pure (l' := [(71, .bool ((decide (t_101.1.xs = t_115.1.xs)) == (eqP (.pair (.int .u16) (.pair (.int .u8) (.pair (.int .u8) (.pair (.int .u8) (.pair (.int .u8) (.pair (.int .u16) (.pair (.int .u16) (.pair (.int .u16) (.pair (.int .u8) (.pair (.int .u8) (.pair (.int .u8) (.int .u8)))))))))))) t_131 t_138))), (60, .bool true), (70, .bool (eqP (.pair (.int .u16) (.pair (.int .u8) (.pair (.int .u8) (.pair (.int .u8) (.pair (.int .u8) (.pair (.int .u16) (.pair (.int .u16) (.pair (.int .u16) (.pair (.int .u8) (.pair (.int .u8) (.pair (.int .u8) (.int .u8)))))))))))) t_131 t_138)), (65, .bool (decide (t_101.1.xs = t_115.1.xs))), (10, .int .i64 t_115.2), (9, v_116), (8, .int .i64 t_101.2), (7, v_102), (4, .pointer (some (⟨b_5, 0, .none⟩ : Addr))), (3, .pointer (some (⟨b_1, 0, .none⟩ : Addr)))]) S tys tys_ok 1 (by kernel_rfl) ?_; clear S; intro a S
        refine wpList_nil ?_
        exact RPost.mk_ S rfl S0 ⟨fun _ => rfl, fun k_ => absurd hc2 k_⟩ (Below.refl _ _)
      · have hl2 : q_124 = false := Bool.eq_false_iff.2 hc2
        have S1 := S
        intro v_327 hF_328
        obtain rfl := cndF.neg hF_328 hc2
        replace S1 := S1.put (by decide : 65 < 76) (undef)
        intro v_329 hF_330
        obtain rfl := cndF.neg hF_330 hc2
        replace S1 := S1.put (by decide : 70 < 76) (undef)
        intro v_332 hF_331; obtain rfl : .bool q_124 = v_332 := Eq.symm hF_331
        replace S1 := S1.put (by decide : 60 < 76) (.bool q_124)
        refine fill_nil S1 ?_; clear S1; intro a_ S1
        rw [show q_124 = false from hl2] at S1
        have S0 := S.defers; replace S := S1; clear S1
        refine wl_pure (l' := [(71, undef), (60, .bool false), (70, undef), (65, undef), (10, .int .i64 t_115.2), (9, v_116), (8, .int .i64 t_101.2), (7, v_102), (4, .pointer (some (⟨b_5, 0, .none⟩ : Addr))), (3, .pointer (some (⟨b_1, 0, .none⟩ : Addr)))]) S tys tys_ok 1 (by kernel_rfl) ?_; clear S; intro a S
        refine wpList_nil ?_
        exact RPost.mk_ S rfl S0 ⟨fun k_ => absurd k_ hc2, fun _ => rfl⟩ (Below.refl _ _)
    refine RunAll.cons (eqv (.bool q_127)) [(eqv (.bool q_124), 60), (cndF q_124 true (eqv (.bool ((decide (t_101.1.xs = t_115.1.xs)) == (eqP (.pair (.int .u16) (.pair (.int .u8) (.pair (.int .u8) (.pair (.int .u8) (.pair (.int .u8) (.pair (.int .u16) (.pair (.int .u16) (.pair (.int .u16) (.pair (.int .u8) (.pair (.int .u8) (.pair (.int .u8) (.int .u8)))))))))))) t_131 t_138)))), 71)] rfl rfl ?_ ?_
    · intro W_ hW
      by_cases hc2 : q_124 = true
      · have hl2 : q_124 = true := hc2
        have S1 := S
        intro v_334 hF_333; obtain rfl : .bool q_124 = v_334 := Eq.symm hF_333
        replace S1 := S1.put (by decide : 60 < 76) (.bool q_124)
        intro v_335 hF_336
        replace hF_336 := cndF.pos hF_336 hc2
        revert hF_336
        revert v_335
        intro v_338 hF_337; obtain rfl : .bool ((decide (t_101.1.xs = t_115.1.xs)) == (eqP (.pair (.int .u16) (.pair (.int .u8) (.pair (.int .u8) (.pair (.int .u8) (.pair (.int .u8) (.pair (.int .u16) (.pair (.int .u16) (.pair (.int .u16) (.pair (.int .u8) (.pair (.int .u8) (.pair (.int .u8) (.int .u8)))))))))))) t_131 t_138)) = v_338 := Eq.symm hF_337
        replace S1 := S1.put (by decide : 71 < 76) (.bool ((decide (t_101.1.xs = t_115.1.xs)) == (eqP (.pair (.int .u16) (.pair (.int .u8) (.pair (.int .u8) (.pair (.int .u8) (.pair (.int .u8) (.pair (.int .u16) (.pair (.int .u16) (.pair (.int .u16) (.pair (.int .u8) (.pair (.int .u8) (.pair (.int .u8) (.int .u8)))))))))))) t_131 t_138)))
        refine fill_nil S1 ?_; clear S1; intro a_ S1
        rw [show q_124 = true from hl2] at S1
        have S0 := S.defers; replace S := S1; clear S1
        refine wl_pure (l' := [(72, .bool ((decide (t_101.1.xs = t_115.1.xs)) == (eqP (.pair (.int .u16) (.pair (.int .u8) (.pair (.int .u8) (.pair (.int .u8) (.pair (.int .u8) (.pair (.int .u16) (.pair (.int .u16) (.pair (.int .u16) (.pair (.int .u8) (.pair (.int .u8) (.pair (.int .u8) (.int .u8)))))))))))) t_131 t_138))), (71, .bool ((decide (t_101.1.xs = t_115.1.xs)) == (eqP (.pair (.int .u16) (.pair (.int .u8) (.pair (.int .u8) (.pair (.int .u8) (.pair (.int .u8) (.pair (.int .u16) (.pair (.int .u16) (.pair (.int .u16) (.pair (.int .u8) (.pair (.int .u8) (.pair (.int .u8) (.int .u8)))))))))))) t_131 t_138))), (60, .bool true), (10, .int .i64 t_115.2), (9, v_116), (8, .int .i64 t_101.2), (7, v_102), (4, .pointer (some (⟨b_5, 0, .none⟩ : Addr))), (3, .pointer (some (⟨b_1, 0, .none⟩ : Addr)))]) S tys tys_ok 1 (by kernel_rfl) ?_; clear S; intro a S
        refine wpList_nil ?_
        exact RPost.mk_ S rfl S0 (congrArg Value.bool ((HG_128).1 hc2).2.2) (Below.refl _ _)
      · have hl2 : q_124 = false := Bool.eq_false_iff.2 hc2
        have S1 := S
        intro v_340 hF_339; obtain rfl : .bool q_124 = v_340 := Eq.symm hF_339
        replace S1 := S1.put (by decide : 60 < 76) (.bool q_124)
        intro v_341 hF_342
        obtain rfl := cndF.neg hF_342 hc2
        replace S1 := S1.put (by decide : 71 < 76) (undef)
        refine fill_nil S1 ?_; clear S1; intro a_ S1
        rw [show q_124 = false from hl2] at S1
        have S0 := S.defers; replace S := S1; clear S1
        refine wl_pure (l' := [(72, .bool false), (71, undef), (60, .bool false), (10, .int .i64 t_115.2), (9, v_116), (8, .int .i64 t_101.2), (7, v_102), (4, .pointer (some (⟨b_5, 0, .none⟩ : Addr))), (3, .pointer (some (⟨b_1, 0, .none⟩ : Addr)))]) S tys tys_ok 1 (by kernel_rfl) ?_; clear S; intro a S
        refine wpList_nil ?_
        exact RPost.mk_ S rfl S0 (congrArg Value.bool ((HG_128).2 hc2)) (Below.refl _ _)
    refine RunAll.cons (eqv (.bool q_127)) [(eqv (.bool q_127), 72)] rfl rfl ?_ ?_
    · intro W_ hW
      have S1 := S
      intro v_344 hF_343; obtain rfl : .bool q_127 = v_344 := Eq.symm hF_343
      replace S1 := S1.put (by decide : 72 < 76) (.bool q_127)
      refine fill_nil S1 ?_; clear S1; intro a_ S1
      have S0 := S.defers; replace S := S1; clear S1
      refine wl_pure (l' := [(73, .bool q_127), (72, .bool q_127), (10, .int .i64 t_115.2), (9, v_116), (8, .int .i64 t_101.2), (7, v_102), (4, .pointer (some (⟨b_5, 0, .none⟩ : Addr))), (3, .pointer (some (⟨b_1, 0, .none⟩ : Addr)))]) S tys tys_ok 1 (by kernel_rfl) ?_; clear S; intro a S
      refine wpList_nil ?_
      exact RPost.mk_ S rfl S0 rfl (Below.refl _ _)
    refine RunAll.cons (cndF q_127 true (eqv (.bool t_145))) [(eqv (.bool q_127), 73)] rfl rfl ?_ ?_
    · intro W_ hW
      by_cases hc3 : q_127 = true
      · have hl3 : q_127 = true := hc3
        have S1 := S
        intro v_346 hF_345; obtain rfl : .bool q_127 = v_346 := Eq.symm hF_345
        replace S1 := S1.put (by decide : 73 < 76) (.bool q_127)
        refine fill_nil S1 ?_; clear S1; intro a_ S1
        replace W := W.step hW
        rw [show q_127 = true from hl3] at S1
        have S0 := S.defers; replace S := S1; clear S1
        obtain ⟨et_145, _⟩ := (HG_144).1 hc3
        refine w_go S rfl (op_call (vs := []) S rfl cb11 rfl rfl rfl (c11 (Kx K w.heap.size [some b_5, some b_1]) n W_  et_145) ?_)
        rintro _ w_350 ⟨v_347, rfl, R_348, hb_349⟩; refine ⟨_, rfl, ?_⟩
        replace R_348 := RepV.back R_348 W
        clear S; intro a S
        obtain rfl := RepV.bool R_348
        refine wpList_nil ?_
        exact RPost.mk_ S rfl S0 ⟨fun _ => rfl, fun k_ => absurd hc3 k_⟩ (hb_349)
      · have hl3 : q_127 = false := Bool.eq_false_iff.2 hc3
        have S1 := S
        intro v_352 hF_351; obtain rfl : .bool q_127 = v_352 := Eq.symm hF_351
        replace S1 := S1.put (by decide : 73 < 76) (.bool q_127)
        refine fill_nil S1 ?_; clear S1; intro a_ S1
        rw [show q_127 = false from hl3] at S1
        have S0 := S.defers; replace S := S1; clear S1
        refine wl_pure (l' := [(74, undef), (73, .bool false), (10, .int .i64 t_115.2), (9, v_116), (8, .int .i64 t_101.2), (7, v_102), (4, .pointer (some (⟨b_5, 0, .none⟩ : Addr))), (3, .pointer (some (⟨b_1, 0, .none⟩ : Addr)))]) S tys tys_ok 1 (by kernel_rfl) ?_; clear S; intro a S
        refine wpList_nil ?_
        exact RPost.mk_ S rfl S0 ⟨fun k_ => absurd k_ hc3, fun _ => rfl⟩ (Below.refl _ _)
    refine RunAll.cons (eqv (.bool q_143)) [(eqv (.bool q_127), 73), (cndF q_127 true (eqv (.bool t_145)), 74)] rfl rfl ?_ ?_
    · intro W_ hW
      by_cases hc3 : q_127 = true
      · have hl3 : q_127 = true := hc3
        have S1 := S
        intro v_354 hF_353; obtain rfl : .bool q_127 = v_354 := Eq.symm hF_353
        replace S1 := S1.put (by decide : 73 < 76) (.bool q_127)
        intro v_355 hF_356
        replace hF_356 := cndF.pos hF_356 hc3
        revert hF_356
        revert v_355
        intro v_358 hF_357; obtain rfl : .bool t_145 = v_358 := Eq.symm hF_357
        replace S1 := S1.put (by decide : 74 < 76) (.bool t_145)
        refine fill_nil S1 ?_; clear S1; intro a_ S1
        rw [show q_127 = true from hl3] at S1
        have S0 := S.defers; replace S := S1; clear S1
        refine wl_pure (l' := [(75, .bool t_145), (74, .bool t_145), (73, .bool true), (10, .int .i64 t_115.2), (9, v_116), (8, .int .i64 t_101.2), (7, v_102), (4, .pointer (some (⟨b_5, 0, .none⟩ : Addr))), (3, .pointer (some (⟨b_1, 0, .none⟩ : Addr)))]) S tys tys_ok 1 (by kernel_rfl) ?_; clear S; intro a S
        refine wpList_nil ?_
        exact RPost.mk_ S rfl S0 (congrArg Value.bool ((HG_144).1 hc3).2) (Below.refl _ _)
      · have hl3 : q_127 = false := Bool.eq_false_iff.2 hc3
        have S1 := S
        intro v_360 hF_359; obtain rfl : .bool q_127 = v_360 := Eq.symm hF_359
        replace S1 := S1.put (by decide : 73 < 76) (.bool q_127)
        intro v_361 hF_362
        obtain rfl := cndF.neg hF_362 hc3
        replace S1 := S1.put (by decide : 74 < 76) (undef)
        refine fill_nil S1 ?_; clear S1; intro a_ S1
        rw [show q_127 = false from hl3] at S1
        have S0 := S.defers; replace S := S1; clear S1
        refine wl_pure (l' := [(75, .bool false), (74, undef), (73, .bool false), (10, .int .i64 t_115.2), (9, v_116), (8, .int .i64 t_101.2), (7, v_102), (4, .pointer (some (⟨b_5, 0, .none⟩ : Addr))), (3, .pointer (some (⟨b_1, 0, .none⟩ : Addr)))]) S tys tys_ok 1 (by kernel_rfl) ?_; clear S; intro a S
        refine wpList_nil ?_
        exact RPost.mk_ S rfl S0 (congrArg Value.bool ((HG_144).2 hc3)) (Below.refl _ _)
    refine RunAll.cons (eqv (.bool q_143)) [(eqv (.bool q_143), 75)] rfl rfl ?_ ?_
    · intro W_ hW
      have S1 := S
      intro v_364 hF_363; obtain rfl : .bool q_143 = v_364 := Eq.symm hF_363
      replace S1 := S1.put (by decide : 75 < 76) (.bool q_143)
      refine fill_nil S1 ?_; clear S1; intro a_ S1
      have S0 := S.defers; replace S := S1; clear S1
      refine wl_pure (l' := [(6, .bool q_143), (75, .bool q_143), (10, .int .i64 t_115.2), (9, v_116), (8, .int .i64 t_101.2), (7, v_102), (4, .pointer (some (⟨b_5, 0, .none⟩ : Addr))), (3, .pointer (some (⟨b_1, 0, .none⟩ : Addr)))]) S tys tys_ok 1 (by kernel_rfl) ?_; clear S; intro a S
      refine wpList_nil ?_
      exact RPost.mk_ S rfl S0 rfl (Below.refl _ _)
    exact trivial
  intro w_365 hb_366
  refine EndE.some_ rfl ?_
  rintro _ ⟨rfl, hF_367⟩
  replace S := S.put (by decide : 49 < 76) (.int .i64 t_101.2)
  refine EndE.some_ rfl ?_
  intro v_370 hF_369; obtain rfl : .bool (t_101.2 == 0) = v_370 := Eq.symm hF_369
  replace S := S.put (by decide : 50 < 76) (.bool (t_101.2 == 0))
  refine EndE.some_ rfl ?_
  intro v_372 hF_371; obtain rfl : .bool (t_101.2 == 0) = v_372 := Eq.symm hF_371
  replace S := S.put (by decide : 51 < 76) (.bool (t_101.2 == 0))
  refine EndE.some_ rfl ?_
  intro v_373 _
  replace S := S.put (by decide : 52 < 76) (v_373)
  refine EndE.some_ rfl ?_
  intro v_374 _
  replace S := S.put (by decide : 53 < 76) (v_374)
  refine EndE.some_ rfl ?_
  intro v_376 hF_375; obtain rfl : .bool q_122 = v_376 := Eq.symm hF_375
  replace S := S.put (by decide : 54 < 76) (.bool q_122)
  refine EndE.some_ rfl ?_
  intro v_378 hF_377; obtain rfl : .bool q_122 = v_378 := Eq.symm hF_377
  replace S := S.put (by decide : 55 < 76) (.bool q_122)
  refine EndE.some_ rfl ?_
  intro v_379 _
  replace S := S.put (by decide : 56 < 76) (v_379)
  refine EndE.some_ rfl ?_
  intro v_380 _
  replace S := S.put (by decide : 57 < 76) (v_380)
  refine EndE.some_ rfl ?_
  intro v_381 _
  replace S := S.put (by decide : 58 < 76) (v_381)
  refine EndE.some_ rfl ?_
  intro v_383 hF_382; obtain rfl : .bool q_124 = v_383 := Eq.symm hF_382
  replace S := S.put (by decide : 59 < 76) (.bool q_124)
  refine EndE.some_ rfl ?_
  intro v_385 hF_384; obtain rfl : .bool q_124 = v_385 := Eq.symm hF_384
  replace S := S.put (by decide : 60 < 76) (.bool q_124)
  refine EndE.some_ rfl ?_
  intro v_386 _
  replace S := S.put (by decide : 61 < 76) (v_386)
  refine EndE.some_ rfl ?_
  intro v_387 _
  replace S := S.put (by decide : 62 < 76) (v_387)
  refine EndE.some_ rfl ?_
  intro v_388 _
  replace S := S.put (by decide : 63 < 76) (v_388)
  refine EndE.some_ rfl ?_
  intro v_389 _
  replace S := S.put (by decide : 64 < 76) (v_389)
  refine EndE.some_ rfl ?_
  intro v_390 _
  replace S := S.put (by decide : 65 < 76) (v_390)
  refine EndE.some_ rfl ?_
  intro v_391 _
  replace S := S.put (by decide : 66 < 76) (v_391)
  refine EndE.some_ rfl ?_
  intro v_392 _
  replace S := S.put (by decide : 67 < 76) (v_392)
  refine EndE.some_ rfl ?_
  intro v_393 _
  replace S := S.put (by decide : 68 < 76) (v_393)
  refine EndE.some_ rfl ?_
  intro v_394 _
  replace S := S.put (by decide : 69 < 76) (v_394)
  refine EndE.some_ rfl ?_
  intro v_395 _
  replace S := S.put (by decide : 70 < 76) (v_395)
  refine EndE.some_ rfl ?_
  intro v_396 _
  replace S := S.put (by decide : 71 < 76) (v_396)
  refine EndE.some_ rfl ?_
  intro v_398 hF_397; obtain rfl : .bool q_127 = v_398 := Eq.symm hF_397
  replace S := S.put (by decide : 72 < 76) (.bool q_127)
  refine EndE.some_ rfl ?_
  intro v_400 hF_399; obtain rfl : .bool q_127 = v_400 := Eq.symm hF_399
  replace S := S.put (by decide : 73 < 76) (.bool q_127)
  refine EndE.some_ rfl ?_
  intro v_401 _
  replace S := S.put (by decide : 74 < 76) (v_401)
  refine EndE.some_ rfl ?_
  intro v_403 hF_402; obtain rfl : .bool q_143 = v_403 := Eq.symm hF_402
  replace S := S.put (by decide : 75 < 76) (.bool q_143)
  refine EndE.some_ rfl ?_
  intro v_405 hF_404; obtain rfl : .bool q_143 = v_405 := Eq.symm hF_404
  replace S := S.put (by decide : 6 < 76) (.bool q_143)
  refine endE_nil S ?_; clear S; intro a S
  replace R_118 := R_118.step hb_366
  replace R_104 := R_104.step hb_366
  replace B_2 := B_2.step hb_366
  replace B_6 := B_6.step hb_366
  replace W := W.step hb_366
  refine then_n ?_
  replace S := S.sub (l' := [(6, .bool q_143)]) (by exact ⟨rfl, trivial⟩)
  refine wp_ret ?_
  obtain rfl := Option.some.inj h
  exact b_ret1 S rfl rfl ⟨_, rfl, RepV.mkBool, W.below⟩

end Go.Proofs.Ytojifdijcanbpaa
