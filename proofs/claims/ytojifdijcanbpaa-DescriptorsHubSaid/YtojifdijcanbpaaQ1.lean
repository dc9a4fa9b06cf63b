/- x. -/
import Derived.Test.YtojifdijcanbpaaQ0
set_option linter.unusedVariables false
set_option linter.unusedSimpArgs false
namespace Go.Proofs.Ytojifdijcanbpaa
open Go.RowKit

def p41 (n : Nat) (x0 : Int) (x1 : Sl (Int)) : Option ((Sl (Int))) :=
  (ckI .i64 ((lenI x1) + 2)).bind fun x_2 =>
  (mkI 0 x_2).bind fun m_3 =>
  (ckI .i64 ((lenI x1) + 2)).bind fun x_9 =>
  (appI (List.replicate m_3.1 (0 : Int)) ([IntKind.wrap .u8 x_9, x0])).bind fun l_14 =>
  (appI l_14 x1.xs).bind fun l_19 =>
  some (⟨l_19, capA (capA (some m_3.2) l_14.length) l_19.length⟩ : Sl (Int))
set_option maxHeartbeats 4000000 in
set_option maxRecDepth 100000 in
/-- plugboard/descriptors.join -/
theorem c41 (K : Nat → Prop) (n : Nat) (w : World) (x0 : Int) (G0 : InR .u8 x0) (x1 : Sl (Int)) (v1 : Value) (R1 : RepV (.sl (.int .u8)) w K v1 x1) {r : (Sl (Int))} (h : p41 n x0 x1 = some r) :
    Calls Try.prog 41 #[.int .u8 x0, v1] w (fun e_ w_ => ∃ v0_ : Value, e_ = .returned v0_ ∧ Ow (.int .u8) 5 w_ w.heap.size (Kx K w.heap.size [v0_.ownBlock]) v0_ r.xs r.cap ∧ Below w.heap.size w w_) := by
  refine enter (args := [.int .u8 x0, v1]) Try.func41 rfl 18 rfl rfl fun a S => ?_
  have W := Wd.start w
  replace R1 := R1.arg
  unfold p41 at h
  replace S : St 18 a [(0, .int .u8 x0), (1, v1)] := S
  refine wp_seq ?_
  refine wp_region_lit ?_
  refine wl_pure (l' := [(4, .slice .none 0 0), (0, .int .u8 x0), (1, v1)]) S tys tys_ok 1 (by kernel_rfl) ?_
  clear S; intro a S
  refine wpList_nil ?_
  refine then_n ?_
  replace S := S.sub (l' := [(0, .int .u8 x0), (1, v1)]) (by exact ⟨rfl, rfl, trivial⟩)
  refine wp_seq ?_
  refine wp_region_lit ?_
  refine wl_pure (l' := [(5, v1), (0, .int .u8 x0), (1, v1)]) S tys tys_ok 1 (by kernel_rfl) ?_
  clear S; intro a S
  refine w_go S rfl (op_len (K := _) S rfl ty23 rfl rfl rfl R1 ?_)
  clear S; intro a G_1 S
  obtain ⟨x_2, ex_2, h⟩ := bindS h
  refine w_go S rfl (op_arith S .i64 ((lenI x1) + 2) rfl (.inl rfl) rfl rfl rfl rfl ex_2 ?_)
  clear S; intro a S
  obtain ⟨m_3, em_3, h⟩ := bindS h
  refine w_go S rfl (op_make (K := K) (e := (.int .u8)) (z0 := 0) S W _ rfl ty23 un23 by23 z5 (fun w K => ⟨rfl, by decide⟩) rfl rfl rfl rfl em_3 ?_)
  clear S; intro a w_5 b_4 hb_6 O_7 S
  replace R1 := R1.box hb_6
  replace W := W.box hb_6
  replace O_7 : Ow (.int .u8) 5 w_5 w.heap.size (Kx K w.heap.size [some b_4]) (.slice (some ⟨b_4, 0, .none⟩) m_3.1 m_3.2) (List.replicate m_3.1 (0 : Int)) (some m_3.2) := O_7
  refine wl_pure (l' := [(9, v1), (8, (.slice (some ⟨b_4, 0, .none⟩) m_3.1 m_3.2)), (7, .int .i64 x_2), (6, .int .i64 (lenI x1)), (5, v1), (0, .int .u8 x0), (1, v1)]) S tys tys_ok 1 (by kernel_rfl) ?_
  clear S; intro a S
  refine w_go S rfl (op_len (K := _) S rfl ty23 rfl rfl rfl R1 ?_)
  clear S; intro a G_8 S
  obtain ⟨x_9, ex_9, h⟩ := bindS h
  refine w_go S rfl (op_arith S .i64 ((lenI x1) + 2) rfl (.inl rfl) rfl rfl rfl rfl ex_9 ?_)
  clear S; intro a S
  refine wl_pure (l' := [(13, .int .u8 x0), (12, .int .u8 (IntKind.wrap .u8 x_9)), (11, .int .i64 x_9), (10, .int .i64 (lenI x1)), (9, v1), (8, (.slice (some ⟨b_4, 0, .none⟩) m_3.1 m_3.2)), (7, .int .i64 x_2), (6, .int .i64 (lenI x1)), (5, v1), (0, .int .u8 x0), (1, v1)]) S tys tys_ok 2 (by kernel_rfl) ?_
  clear S; intro a S
  refine w_go S rfl (op_buildSlice (K := K) (e := (.int .u8)) (vs := [.int .u8 (IntKind.wrap .u8 x_9), .int .u8 x0]) (xs := [IntKind.wrap .u8 x_9, x0]) S W rfl ty23 rfl rfl (by kernel_rfl) rfl rfl rfl rfl rfl ⟨(RepV.mkInt (inR_wrap _ _)), (RepV.mkInt G0), trivial⟩ ?_)
  clear S; intro a w_13 v_10 hb_12 R_11 S
  replace R1 := R1.step hb_12
  replace O_7 := O_7.step hb_12
  replace W := W.step hb_12
  obtain ⟨l_14, el_14, h⟩ := bindS h
  refine w_go S rfl (op_append S W (E := 5) 0 rfl ty23 un23 by23 rfl rfl rfl rfl O_7 rfl R_11 el_14 ?_)
  clear S; intro a w_16 v_15 A_17 O_18 S
  replace R1 : RepV (.sl (.int .u8)) w_16 (Kx K w.heap.size [v_15.ownBlock]) v1 x1 := R1.apd A_17 (i := 0) rfl
  replace R_11 : RepV (.sl (.int .u8)) w_16 (Kx K w.heap.size [v_15.ownBlock]) v_10 (⟨[IntKind.wrap .u8 x_9, x0], some 2⟩ : Sl (Int)) := R_11.apd A_17 (i := 0) rfl
  replace W : Wd w w_16 [v_15.ownBlock] := W.apd A_17 (i := 0) rfl
  replace O_18 : Ow (.int .u8) 5 w_16 w.heap.size (Kx K w.heap.size [v_15.ownBlock]) v_15 l_14 (capA (some m_3.2) l_14.length) := O_18
  refine wl_pure (l' := [(16, v1), (15, v_15), (14, v_10), (13, .int .u8 x0), (12, .int .u8 (IntKind.wrap .u8 x_9)), (11, .int .i64 x_9), (10, .int .i64 (lenI x1)), (9, v1), (8, (.slice (some ⟨b_4, 0, .none⟩) m_3.1 m_3.2)), (7, .int .i64 x_2), (6, .int .i64 (lenI x1)), (5, v1), (0, .int .u8 x0), (1, v1)]) S tys tys_ok 1 (by kernel_rfl) ?_
  clear S; intro a S
  obtain ⟨l_19, el_19, h⟩ := bindS h
  refine w_go S rfl (op_append S W (E := 5) 0 rfl ty23 un23 by23 rfl rfl rfl rfl O_18 rfl R1 el_19 ?_)
  clear S; intro a w_21 v_20 A_22 O_23 S
  replace R1 : RepV (.sl (.int .u8)) w_21 (Kx K w.heap.size [v_20.ownBlock]) v1 x1 := R1.apd A_22 (i := 0) rfl
  replace R_11 : RepV (.sl (.int .u8)) w_21 (Kx K w.heap.size [v_20.ownBlock]) v_10 (⟨[IntKind.wrap .u8 x_9, x0], some 2⟩ : Sl (Int)) := R_11.apd A_22 (i := 0) rfl
  replace W : Wd w w_21 [v_20.ownBlock] := W.apd A_22 (i := 0) rfl
  replace O_23 : Ow (.int .u8) 5 w_21 w.heap.size (Kx K w.heap.size [v_20.ownBlock]) v_20 l_19 (capA (capA (some m_3.2) l_14.length) l_19.length) := O_23
  refine wl_pure (l' := [(4, v_20), (17, v_20), (16, v1), (15, v_15), (14, v_10), (13, .int .u8 x0), (12, .int .u8 (IntKind.wrap .u8 x_9)), (11, .int .i64 x_9), (10, .int .i64 (lenI x1)), (9, v1), (8, (.slice (some ⟨b_4, 0, .none⟩) m_3.1 m_3.2)), (7, .int .i64 x_2), (6, .int .i64 (lenI x1)), (5, v1), (0, .int .u8 x0), (1, v1)]) S tys tys_ok 1 (by kernel_rfl) ?_
  clear S; intro a S
  refine wpList_nil ?_
  refine then_n ?_
  replace S := S.sub (l' := [(4, v_20)]) (by exact ⟨rfl, trivial⟩)
  refine wp_ret ?_
  obtain rfl := Option.some.inj h
  exact b_ret1 S rfl rfl ⟨_, rfl, (O_23.lessO 0 rfl), W.below⟩
theorem cb41 : callB Try.prog 41 = true := by kernel_rfl
def p38 (n : Nat) (x0 : Int) : Option ((List Int)) :=
  (remI .u16 x0 256).bind fun x_1 =>
  (quoI .u16 x0 256).bind fun x_2 =>
  some ((⟨[IntKind.wrap .u8 x_1, IntKind.wrap .u8 x_2], some 2⟩ : Sl (Int)).xs)
set_option maxHeartbeats 4000000 in
set_option maxRecDepth 100000 in
/-- plugboard/plugboardlaw13.two -/
theorem c38 (K : Nat → Prop) (n : Nat) (w : World) (x0 : Int) (G0 : InR .u16 x0) {r : (List Int)} (h : p38 n x0 = some r) :
    Calls Try.prog 38 #[.int .u16 x0] w (Ret1 .str w (Kx K w.heap.size []) r) := by
  refine enter (args := [.int .u16 x0]) Try.func38 rfl 11 rfl rfl fun a S => ?_
  have W := Wd.start w
  unfold p38 at h
  replace S : St 11 a [(0, .int .u16 x0)] := S
  refine wp_seq ?_
  refine wp_region_lit ?_
  refine wl_pure (l' := [(2, .string (strOfNums ([]))), (0, .int .u16 x0)]) S tys tys_ok 1 (by kernel_rfl) ?_
  clear S; intro a S
  refine wpList_nil ?_
  refine then_n ?_
  replace S := S.sub (l' := [(0, .int .u16 x0)]) (by exact ⟨rfl, trivial⟩)
  refine wp_seq ?_
  refine wp_region_lit ?_
  refine wl_pure (l' := [(3, .int .u16 x0), (0, .int .u16 x0)]) S tys tys_ok 1 (by kernel_rfl) ?_
  clear S; intro a S
  obtain ⟨x_1, ex_1, h⟩ := bindS h
  refine w_go S rfl (op_rem S .u16 rfl rfl rfl rfl rfl ex_1 ?_)
  clear S; intro a S
  refine wl_pure (l' := [(6, .int .u16 x0), (5, .int .u8 (IntKind.wrap .u8 x_1)), (4, .int .u16 x_1), (3, .int .u16 x0), (0, .int .u16 x0)]) S tys tys_ok 2 (by kernel_rfl) ?_
  clear S; intro a S
  obtain ⟨x_2, ex_2, h⟩ := bindS h
  refine w_go S rfl (op_quo S .u16 rfl rfl rfl rfl rfl ex_2 ?_)
  clear S; intro a S
  refine wl_pure (l' := [(8, .int .u8 (IntKind.wrap .u8 x_2)), (7, .int .u16 x_2), (6, .int .u16 x0), (5, .int .u8 (IntKind.wrap .u8 x_1)), (4, .int .u16 x_1), (3, .int .u16 x0), (0, .int .u16 x0)]) S tys tys_ok 1 (by kernel_rfl) ?_
  clear S; intro a S
  refine w_go S rfl (op_buildSlice (K := K) (e := (.int .u8)) (vs := [.int .u8 (IntKind.wrap .u8 x_1), .int .u8 (IntKind.wrap .u8 x_2)]) (xs := [IntKind.wrap .u8 x_1, IntKind.wrap .u8 x_2]) S W rfl ty23 rfl rfl (by kernel_rfl) rfl rfl rfl rfl rfl ⟨(RepV.mkInt (inR_wrap _ _)), (RepV.mkInt (inR_wrap _ _)), trivial⟩ ?_)
  clear S; intro a w_6 v_3 hb_5 R_4 S
  replace W := W.step hb_5
  refine w_go S rfl (op_str (K := _) S rfl ty23 ty9 rfl rfl rfl R_4 ?_)
  clear S; intro a S
  refine wl_pure (l' := [(2, .string (strOfNums ((⟨[IntKind.wrap .u8 x_1, IntKind.wrap .u8 x_2], some 2⟩ : Sl (Int)).xs))), (10, .string (strOfNums ((⟨[IntKind.wrap .u8 x_1, IntKind.wrap .u8 x_2], some 2⟩ : Sl (Int)).xs))), (9, v_3), (8, .int .u8 (IntKind.wrap .u8 x_2)), (7, .int .u16 x_2), (6, .int .u16 x0), (5, .int .u8 (IntKind.wrap .u8 x_1)), (4, .int .u16 x_1), (3, .int .u16 x0), (0, .int .u16 x0)]) S tys tys_ok 1 (by kernel_rfl) ?_
  clear S; intro a S
  refine wpList_nil ?_
  refine then_n ?_
  replace S := S.sub (l' := [(2, .string (strOfNums ((⟨[IntKind.wrap .u8 x_1, IntKind.wrap .u8 x_2], some 2⟩ : Sl (Int)).xs)))]) (by exact ⟨rfl, trivial⟩)
  refine wp_ret ?_
  obtain rfl := Option.some.inj h
  exact b_ret1 S rfl rfl ⟨_, rfl, (RepV.mkStr R_4.byt), W.below⟩
theorem cb38 : callB Try.prog 38 = true := by kernel_rfl
def p19 (n : Nat) (x0 : Sl (Int)) (x1 : Int) (x2 : List Int) : Option ((Bool)) :=
  if (decide (x2 = [])) then ((if ((lenI x0) == 0) = true then some (x1 == 1) else some false).bind fun q_2 => some q_2) else (if (decide (x0.xs = x2)) = true then (capO x0).bind fun x_5 => some (x_5 == (lenS x2)) else some false).bind fun q_3 => (if q_3 = true then some (x1 == 0) else some false).bind fun q_6 => some q_6
set_option maxHeartbeats 4000000 in
set_option maxRecDepth 100000 in
/-- plugboard/plugboardlaw13.good -/
theorem c19 (K : Nat → Prop) (n : Nat) (w : World) (x0 : Sl (Int)) (v0 : Value) (R0 : RepV (.sl (.int .u8)) w K v0 x0) (x1 : Int) (G1 : InR .i64 x1) (x2 : List Int) (G2 : Byt x2 ∧ x2.length ≤ 9223372036854775807) {r : (Bool)} (h : p19 n x0 x1 x2 = some r) :
    Calls Try.prog 19 #[v0, .int .i64 x1, .string (strOfNums x2)] w (Ret1 .bool w (Kx K w.heap.size []) r) := by
  refine enter (args := [v0, .int .i64 x1, .string (strOfNums x2)]) Try.func19 rfl 31 rfl rfl fun a S => ?_
  have W := Wd.start w
  replace R0 := R0.arg
  unfold p19 at h
  replace S : St 31 a [(0, v0), (1, .int .i64 x1), (2, .string (strOfNums x2))] := S
  refine wp_seq ?_
  refine wp_region_lit ?_
  refine wl_pure (l' := [(6, .bool false), (0, v0), (1, .int .i64 x1), (2, .string (strOfNums x2))]) S tys tys_ok 1 (by kernel_rfl) ?_
  clear S; intro a S
  refine wpList_nil ?_
  refine then_n ?_
  replace S := S.sub (l' := [(0, v0), (1, .int .i64 x1), (2, .string (strOfNums x2))]) (by exact ⟨rfl, rfl, rfl, trivial⟩)
  refine wp_seq ?_
  refine wp_seq ?_
  refine wp_region_lit ?_
  refine wl_pure (l' := [(7, .string (strOfNums x2)), (0, v0), (1, .int .i64 x1), (2, .string (strOfNums x2))]) S tys tys_ok 1 (by kernel_rfl) ?_
  clear S; intro a S
  refine w_go S rfl (op_streq S rfl rfl rfl rfl (by kernel_rfl) (G2).1 ((strG ([]) (by decide) (by decide))).1 ?_)
  clear S; intro a S
  refine wpList_nil ?_
  refine then_n ?_
  replace S := S.sub (l' := [(8, .bool (decide (x2 = []))), (0, v0), (1, .int .i64 x1), (2, .string (strOfNums x2))]) (by exact ⟨rfl, rfl, rfl, rfl, trivial⟩)
  refine wp_cond_split (S.eval (show ev _ _ = some (.bool (decide (x2 = []))) from rfl)) ?_ ?_
  · intro hc
    rw [if_pos hc] at h
    refine wp_seq ?_
    refine wp_region_lit ?_
    refine wl_pure (l' := [(9, v0), (8, .bool (decide (x2 = []))), (0, v0), (1, .int .i64 x1), (2, .string (strOfNums x2))]) S tys tys_ok 1 (by kernel_rfl) ?_
    clear S; intro a S
    refine w_go S rfl (op_len (K := _) S rfl ty23 rfl rfl rfl R0 ?_)
    clear S; intro a G_1 S
    refine wl_pure (l' := [(12, .bool ((lenI x0) == 0)), (11, .bool ((lenI x0) == 0)), (10, .int .i64 (lenI x0)), (9, v0), (8, .bool (decide (x2 = []))), (0, v0), (1, .int .i64 x1), (2, .string (strOfNums x2))]) S tys tys_ok 2 (by kernel_rfl) ?_
    clear S; intro a S
    obtain ⟨q_2, eq_2, h⟩ := bindS h
    refine seg 3 (fun a_ w_ => w = w_ ∧ St 31 a_ [(15, .bool q_2)]) ?_ ?_
    · by_cases hc : ((lenI x0) == 0) = true
      · rw [if_pos hc] at eq_2; rw [hc] at S
        refine wl_pure (l' := [(15, .bool (x1 == 1)), (14, .bool (x1 == 1)), (13, .int .i64 x1), (12, .bool true), (11, .bool true), (10, .int .i64 (lenI x0)), (9, v0), (8, .bool (decide (x2 = []))), (0, v0), (1, .int .i64 x1), (2, .string (strOfNums x2))]) S tys tys_ok 3 (by kernel_rfl) ?_
        clear S; intro a S
        obtain rfl := Option.some.inj eq_2
        exact ⟨rfl, S.sub (by exact ⟨rfl, trivial⟩)⟩
      · rw [if_neg hc] at eq_2; rw [show ((lenI x0) == 0) = false from Bool.eq_false_iff.2 hc] at S
        refine wl_pure (l' := [(15, .bool false), (14, undef), (13, undef), (12, .bool false), (11, .bool false), (10, .int .i64 (lenI x0)), (9, v0), (8, .bool (decide (x2 = []))), (0, v0), (1, .int .i64 x1), (2, .string (strOfNums x2))]) S tys tys_ok 3 (by kernel_rfl) ?_
        clear S; intro a S
        obtain rfl := Option.some.inj eq_2
        exact ⟨rfl, S.sub (by exact ⟨rfl, trivial⟩)⟩
    clear S eq_2; rintro a _ ⟨rfl, S⟩
    refine wl_pure (l' := [(6, .bool q_2), (15, .bool q_2)]) S tys tys_ok 1 (by kernel_rfl) ?_
    clear S; intro a S
    refine wpList_nil ?_
    refine then_n ?_
    replace S := S.sub (l' := [(6, .bool q_2)]) (by exact ⟨rfl, trivial⟩)
    refine wp_ret ?_
    refine then_r ?_
    obtain rfl := Option.some.inj h
    exact b_ret1 S rfl rfl ⟨_, rfl, RepV.mkBool, W.below⟩
  · intro hc
    rw [if_neg (Bool.eq_false_iff.1 hc)] at h
    refine wp_skip ?_
    refine then_n ?_
    replace S := S.sub (l' := [(0, v0), (1, .int .i64 x1), (2, .string (strOfNums x2))]) (by exact ⟨rfl, rfl, rfl, trivial⟩)
    refine wp_seq ?_
    refine wp_region_lit ?_
    refine wl_pure (l' := [(16, v0), (0, v0), (1, .int .i64 x1), (2, .string (strOfNums x2))]) S tys tys_ok 1 (by kernel_rfl) ?_
    clear S; intro a S
    refine w_go S rfl (op_str (K := _) S rfl ty23 ty9 rfl rfl rfl R0 ?_)
    clear S; intro a S
    refine wl_pure (l' := [(18, .string (strOfNums x2)), (17, .string (strOfNums x0.xs)), (16, v0), (0, v0), (1, .int .i64 x1), (2, .string (strOfNums x2))]) S tys tys_ok 1 (by kernel_rfl) ?_
    clear S; intro a S
    refine w_go S rfl (op_streq S rfl rfl rfl rfl rfl (R0.byt).1 (G2).1 ?_)
    clear S; intro a S
    refine wl_pure (l' := [(20, .bool (decide (x0.xs = x2))), (19, .bool (decide (x0.xs = x2))), (18, .string (strOfNums x2)), (17, .string (strOfNums x0.xs)), (16, v0), (0, v0), (1, .int .i64 x1), (2, .string (strOfNums x2))]) S tys tys_ok 1 (by kernel_rfl) ?_
    clear S; intro a S
    obtain ⟨q_3, eq_3, h⟩ := bindS h
    refine seg 6 (fun a_ w_ => w = w_ ∧ St 31 a_ [(26, .bool q_3), (1, .int .i64 x1)]) ?_ ?_
    · by_cases hc : (decide (x0.xs = x2)) = true
      · rw [if_pos hc] at eq_3; rw [hc] at S
        refine wl_pure (l' := [(21, v0), (20, .bool true), (19, .bool true), (18, .string (strOfNums x2)), (17, .string (strOfNums x0.xs)), (16, v0), (0, v0), (1, .int .i64 x1), (2, .string (strOfNums x2))]) S tys tys_ok 1 (by kernel_rfl) ?_
        clear S; intro a S
        obtain ⟨x_5, ex_5, eq_3⟩ := bindS eq_3
        refine w_go S rfl (op_cap (K := _) S rfl ty23 rfl rfl rfl R0 ex_5 ?_)
        clear S; intro a G_4 S
        refine wl_pure (l' := [(23, .string (strOfNums x2)), (22, .int .i64 x_5), (21, v0), (20, .bool true), (19, .bool true), (18, .string (strOfNums x2)), (17, .string (strOfNums x0.xs)), (16, v0), (0, v0), (1, .int .i64 x1), (2, .string (strOfNums x2))]) S tys tys_ok 1 (by kernel_rfl) ?_
        clear S; intro a S
        refine w_go S rfl (op_lenS S rfl ty9 rfl rfl rfl ?_)
        clear S; intro a S
        refine wl_pure (l' := [(26, .bool (x_5 == (lenS x2))), (25, .bool (x_5 == (lenS x2))), (24, .int .i64 (lenS x2)), (23, .string (strOfNums x2)), (22, .int .i64 x_5), (21, v0), (20, .bool true), (19, .bool true), (18, .string (strOfNums x2)), (17, .string (strOfNums x0.xs)), (16, v0), (0, v0), (1, .int .i64 x1), (2, .string (strOfNums x2))]) S tys tys_ok 2 (by kernel_rfl) ?_
        clear S; intro a S
        obtain rfl := Option.some.inj eq_3
        exact ⟨rfl, S.sub (by exact ⟨rfl, rfl, trivial⟩)⟩
      · rw [if_neg hc] at eq_3; rw [show (decide (x0.xs = x2)) = false from Bool.eq_false_iff.2 hc] at S
        refine wl_pure (l' := [(26, .bool false), (25, undef), (24, undef), (23, undef), (22, undef), (21, undef), (20, .bool false), (19, .bool false), (18, .string (strOfNums x2)), (17, .string (strOfNums x0.xs)), (16, v0), (0, v0), (1, .int .i64 x1), (2, .string (strOfNums x2))]) S tys tys_ok 6 (by kernel_rfl) ?_
        clear S; intro a S
        obtain rfl := Option.some.inj eq_3
        exact ⟨rfl, S.sub (by exact ⟨rfl, rfl, trivial⟩)⟩
    clear S eq_3; rintro a _ ⟨rfl, S⟩
    refine wl_pure (l' := [(27, .bool q_3), (26, .bool q_3), (1, .int .i64 x1)]) S tys tys_ok 1 (by kernel_rfl) ?_
    clear S; intro a S
    obtain ⟨q_6, eq_6, h⟩ := bindS h
    refine seg 3 (fun a_ w_ => w = w_ ∧ St 31 a_ [(30, .bool q_6)]) ?_ ?_
    · by_cases hc : q_3 = true
      · rw [if_pos hc] at eq_6; rw [hc] at S
        refine wl_pure (l' := [(30, .bool (x1 == 0)), (29, .bool (x1 == 0)), (28, .int .i64 x1), (27, .bool true), (26, .bool true), (1, .int .i64 x1)]) S tys tys_ok 3 (by kernel_rfl) ?_
        clear S; intro a S
        obtain rfl := Option.some.inj eq_6
        exact ⟨rfl, S.sub (by exact ⟨rfl, trivial⟩)⟩
      · rw [if_neg hc] at eq_6; rw [show q_3 = false from Bool.eq_false_iff.2 hc] at S
        refine wl_pure (l' := [(30, .bool false), (29, undef), (28, undef), (27, .bool false), (26, .bool false), (1, .int .i64 x1)]) S tys tys_ok 3 (by kernel_rfl) ?_
        clear S; intro a S
        obtain rfl := Option.some.inj eq_6
        exact ⟨rfl, S.sub (by exact ⟨rfl, trivial⟩)⟩
    clear S eq_6; rintro a _ ⟨rfl, S⟩
    refine wl_pure (l' := [(6, .bool q_6), (30, .bool q_6)]) S tys tys_ok 1 (by kernel_rfl) ?_
    clear S; intro a S
    refine wpList_nil ?_
    refine then_n ?_
    replace S := S.sub (l' := [(6, .bool q_6)]) (by exact ⟨rfl, trivial⟩)
    refine wp_ret ?_
    obtain rfl := Option.some.inj h
    exact b_ret1 S rfl rfl ⟨_, rfl, RepV.mkBool, W.below⟩
theorem cb19 : callB Try.prog 19 = true := by kernel_rfl
def p55_l1 (n : Nat) (x0 : Sl (Int)) (x1 : Sl (Int)) : Nat → (Int) → Option ((Unit) ⊕ ((Bool)))
  | 0, _ => .none
  | m + 1, c_4 => if (decide (c_4 < (lenI x0))) then ((idx x0.xs c_4).bind fun y_13 => (idx x1.xs c_4).bind fun y_19 => if (y_13 != y_19) then (some (.inr false)) else (ckI .i64 (c_4 + 1)).bind fun x_83 => p55_l1 n x0 x1 m x_83) else some (.inl ())
def p55 (n : Nat) (x0 : Sl (Int)) (x1 : Sl (Int)) : Option ((Bool)) :=
  if ((lenI x0) != (lenI x1)) then (some false) else (p55_l1 n x0 x1 n 0).bind fun (y_8 : (Unit) ⊕ ((Bool))) => lrK y_8 some fun (s_9 : Unit) => some true
set_option maxHeartbeats 4000000 in
set_option maxRecDepth 100000 in
/-- slices.Equal[[]byte,byte] -/
theorem c55 (K : Nat → Prop) (n : Nat) (w : World) (x0 : Sl (Int)) (v0 : Value) (R0 : RepV (.sl (.int .u8)) w K v0 x0) (x1 : Sl (Int)) (v1 : Value) (R1 : RepV (.sl (.int .u8)) w K v1 x1) {r : (Bool)} (h : p55 n x0 x1 = some r) :
    Calls Try.prog 55 #[v0, v1] w (Ret1 .bool w (Kx K w.heap.size []) r) := by
  refine enter (args := [v0, v1]) Try.func55 rfl 26 rfl rfl fun a S => ?_
  have W := Wd.start w
  replace R0 := R0.arg
  replace R1 := R1.arg
  unfold p55 at h
  replace S : St 26 a [(0, v0), (1, v1)] := S
  refine wp_seq ?_
  refine wp_region_lit ?_
  refine wl_pure (l' := [(4, .bool false), (0, v0), (1, v1)]) S tys tys_ok 1 (by kernel_rfl) ?_
  clear S; intro a S
  refine wpList_nil ?_
  refine then_n ?_
  replace S := S.sub (l' := [(0, v0), (1, v1)]) (by exact ⟨rfl, rfl, trivial⟩)
  refine wp_seq ?_
  refine wp_seq ?_
  refine wp_region_lit ?_
  refine wl_pure (l' := [(6, v0), (0, v0), (1, v1)]) S tys tys_ok 1 (by kernel_rfl) ?_
  clear S; intro a S
  refine w_go S rfl (op_len (K := _) S rfl ty23 rfl rfl rfl R0 ?_)
  clear S; intro a G_1 S
  refine wl_pure (l' := [(8, v1), (7, .int .i64 (lenI x0)), (6, v0), (0, v0), (1, v1)]) S tys tys_ok 1 (by kernel_rfl) ?_
  clear S; intro a S
  refine w_go S rfl (op_len (K := _) S rfl ty23 rfl rfl rfl R1 ?_)
  clear S; intro a G_2 S
  refine wl_pure (l' := [(10, .bool ((lenI x0) != (lenI x1))), (9, .int .i64 (lenI x1)), (8, v1), (7, .int .i64 (lenI x0)), (6, v0), (0, v0), (1, v1)]) S tys tys_ok 1 (by kernel_rfl) ?_
  clear S; intro a S
  refine wpList_nil ?_
  refine then_n ?_
  replace S := S.sub (l' := [(10, .bool ((lenI x0) != (lenI x1))), (0, v0), (1, v1)]) (by exact ⟨rfl, rfl, rfl, trivial⟩)
  refine wp_cond_split (S.eval (show ev _ _ = some (.bool ((lenI x0) != (lenI x1))) from rfl)) ?_ ?_
  · intro hc
    rw [if_pos hc] at h
    refine wp_seq ?_
    refine wp_region_lit ?_
    refine wl_pure (l' := [(4, .bool false), (10, .bool ((lenI x0) != (lenI x1))), (0, v0), (1, v1)]) S tys tys_ok 1 (by kernel_rfl) ?_
    clear S; intro a S
    refine wpList_nil ?_
    refine then_n ?_
    replace S := S.sub (l' := [(4, .bool false)]) (by exact ⟨rfl, trivial⟩)
    refine wp_ret ?_
    refine then_r ?_
    obtain rfl := Option.some.inj h
    exact b_ret1 S rfl rfl ⟨_, rfl, RepV.mkBool, W.below⟩
  · intro hc
    rw [if_neg (Bool.eq_false_iff.1 hc)] at h
    refine wp_skip ?_
    refine then_n ?_
    replace S := S.sub (l' := [(0, v0), (1, v1)]) (by exact ⟨rfl, rfl, trivial⟩)
    refine wp_seq ?_
    refine wp_seq ?_
    refine wp_region_lit ?_
    refine wl_pure (l' := [(11, v0), (0, v0), (1, v1)]) S tys tys_ok 1 (by kernel_rfl) ?_
    clear S; intro a S
    refine w_go S rfl (op_len (K := _) S rfl ty23 rfl rfl rfl R0 ?_)
    clear S; intro a G_3 S
    refine wl_pure (l' := [(13, .int .i64 0), (12, .int .i64 (lenI x0)), (11, v0), (0, v0), (1, v1)]) S tys tys_ok 1 (by kernel_rfl) ?_
    clear S; intro a S
    refine wpList_nil ?_
    refine then_n ?_
    replace S := S.sub (l' := [(13, .int .i64 0), (12, .int .i64 (lenI x0)), (0, v0), (1, v1)]) (by exact ⟨rfl, rfl, rfl, rfl, trivial⟩)
    obtain ⟨y_8, ey_8, h⟩ := bindS h
    refine wp_cut_ (fun a_ w_ => ∃ s_9 : Unit, y_8 = .inl s_9 ∧ (St 26 a_ [] ∧ Wd w w_ [])) ?_ ?_
    · refine wp_block ?_
      refine wp_loop_n (fun m_ a_ w_ => ∃ (c_4 : Int) , St 26 a_ [(13, .int .i64 c_4), (12, .int .i64 (lenI x0)), (0, v0), (1, v1)] ∧ Wd w w_ [] ∧ InR .i64 c_4 ∧ RepV (.sl (.int .u8)) w_ (Kx K w.heap.size []) v0 x0 ∧ RepV (.sl (.int .u8)) w_ (Kx K w.heap.size []) v1 x1 ∧ p55_l1 n x0 x1 m_ c_4 = some y_8) n ?_ ?_
      · skip
        exact ⟨0, ⟨S.sub (by exact ⟨rfl, rfl, rfl, rfl, trivial⟩), W, (by decide), R0, R1, ey_8⟩⟩
      · clear S W; rintro m_10 a w_12 ⟨c_4, S, W, G_5, R0, R1, hl_11⟩
        cases m_10 with
        | zero => exact absurd hl_11 (by simp [p55_l1])
        | succ m_10 =>
          refine ⟨m_10, rfl, ?_⟩
          rw [p55_l1] at hl_11
          refine wp_seq ?_
          refine wp_region_lit ?_
          refine wl_pure (l' := [(14, .bool (decide (c_4 < (lenI x0)))), (13, .int .i64 c_4), (12, .int .i64 (lenI x0)), (0, v0), (1, v1)]) S tys tys_ok 1 (by kernel_rfl) ?_
          clear S; intro a S
          refine wpList_nil ?_
          refine then_n ?_
          refine wp_seq ?_
          refine wp_cond_split (S.eval (show ev _ _ = some (.bool (decide (c_4 < (lenI x0)))) from rfl)) ?_ ?_
          · intro hc
            rw [if_pos hc] at hl_11
            refine wp_skip ?_
            refine then_n ?_
            replace S := S.sub (l' := [(13, .int .i64 c_4), (12, .int .i64 (lenI x0)), (0, v0), (1, v1)]) (by exact ⟨rfl, rfl, rfl, rfl, trivial⟩)
            refine wp_seq ?_
            refine wp_block ?_
            refine wp_seq ?_
            refine wp_region_lit ?_
            refine wl_pure (l' := [(5, .int .i64 c_4), (15, .int .i64 c_4), (13, .int .i64 c_4), (12, .int .i64 (lenI x0)), (0, v0), (1, v1)]) S tys tys_ok 2 (by kernel_rfl) ?_
            clear S; intro a S
            refine wpList_nil ?_
            refine then_n ?_
            replace S := S.sub (l' := [(5, .int .i64 c_4), (13, .int .i64 c_4), (12, .int .i64 (lenI x0)), (0, v0), (1, v1)]) (by exact ⟨rfl, rfl, rfl, rfl, rfl, trivial⟩)
            refine wp_seq ?_
            obtain ⟨y_13, ey_13, hl_11⟩ := bindS hl_11
            obtain ⟨y_19, ey_19, hl_11⟩ := bindS hl_11
            have hR : Rel (Kx K w.heap.size []) Bl := Bl.rel _
            refine wp_region_all hR [isRep (.sl (.int .u8)) (Kx K w.heap.size []) x0, isI .i64 c_4, isEl (.int .u8) (Kx K w.heap.size []) y_13, isI .u8 y_13, isRep (.sl (.int .u8)) (Kx K w.heap.size []) x1, isI .i64 c_4, isEl (.int .u8) (Kx K w.heap.size []) y_19, isI .u8 y_19, eqv (.bool (y_13 != y_19))] [[], [], [(0, 16), (1, 17)], [(2, 18)], [], [], [(4, 20), (5, 21)], [(6, 22)], [(3, 19), (7, 23)]] (by kernel_rfl) (by rw [S.size]; kernel_rfl) (by kernel_rfl) (by kernel_rfl) rfl ⟨(stab_rep hR), stab_I, (stab_el hR), stab_I, (stab_rep hR), stab_I, (stab_el hR), stab_I, (stab_eqv _), trivial⟩ ?_ ?_
            ·
              refine RunAll.cons (isRep (.sl (.int .u8)) (Kx K w.heap.size []) x0) [] rfl rfl ?_ ?_
              · intro W_ hW
                have S1 := S
                refine fill_nil S1 ?_; clear S1; intro a_ S1
                replace R0 := R0.step hW
                have S0 := S.defers; replace S := S1; clear S1
                refine wl_pure (l' := [(16, v0), (5, .int .i64 c_4), (13, .int .i64 c_4), (12, .int .i64 (lenI x0)), (0, v0), (1, v1)]) S tys tys_ok 1 (by kernel_rfl) ?_; clear S; intro a S
                refine wpList_nil ?_
                exact RPost.mk_ S rfl S0 R0 (Below.refl _ _)
              refine RunAll.cons (isI .i64 c_4) [] rfl rfl ?_ ?_
              · intro W_ hW
                have S1 := S
                refine fill_nil S1 ?_; clear S1; intro a_ S1
                have S0 := S.defers; replace S := S1; clear S1
                refine wl_pure (l' := [(17, .int .i64 c_4), (5, .int .i64 c_4), (13, .int .i64 c_4), (12, .int .i64 (lenI x0)), (0, v0), (1, v1)]) S tys tys_ok 1 (by kernel_rfl) ?_; clear S; intro a S
                refine wpList_nil ?_
                exact RPost.mk_ S rfl S0 ⟨rfl, G_5⟩ (Below.refl _ _)
              refine RunAll.cons (isEl (.int .u8) (Kx K w.heap.size []) y_13) [(isRep (.sl (.int .u8)) (Kx K w.heap.size []) x0, 16), (isI .i64 c_4, 17)] rfl rfl ?_ ?_
              · intro W_ hW
                have S1 := S
                intro v_26 hF_25; replace hF_25 : RepV _ _ _ _ _ := hF_25
                replace S1 := S1.put (by decide : 16 < 26) (v_26)
                rintro _ ⟨rfl, hF_27⟩
                replace S1 := S1.put (by decide : 17 < 26) (.int .i64 c_4)
                refine fill_nil S1 ?_; clear S1; intro a_ S1
                replace W := W.step hW
                have S0 := S.defers; replace S := S1; clear S1
                refine w_go S rfl (op_indexAddr S rfl ty23 rfl rfl rfl hF_25 rfl ey_13 ?_)
                clear S; intro a p_29 R_30 H_31 S
                refine wpList_nil ?_
                exact RPost.mk_ S rfl S0 ⟨_, rfl, R_30, H_31⟩ (Below.refl _ _)
              refine RunAll.cons (isI .u8 y_13) [(isEl (.int .u8) (Kx K w.heap.size []) y_13, 18)] rfl rfl ?_ ?_
              · intro W_ hW
                have S1 := S
                rintro _ ⟨p_34, rfl, R_35, H_36⟩
                replace S1 := S1.put (by decide : 18 < 26) (.pointer (some p_34))
                refine fill_nil S1 ?_; clear S1; intro a_ S1
                have S0 := S.defers; replace S := S1; clear S1
                refine w_go S rfl (op_load (t := (.int .u8)) (x := y_13) S rfl ty5 rfl rfl rfl R_35 ?_)
                clear S; intro a v_37 R_38 S
                obtain ⟨rfl, GR_38⟩ := RepV.int R_38
                refine wpList_nil ?_
                exact RPost.mk_ S rfl S0 ⟨rfl, GR_38⟩ (Below.refl _ _)
              refine RunAll.cons (isRep (.sl (.int .u8)) (Kx K w.heap.size []) x1) [] rfl rfl ?_ ?_
              · intro W_ hW
                have S1 := S
                refine fill_nil S1 ?_; clear S1; intro a_ S1
                replace R1 := R1.step hW
                have S0 := S.defers; replace S := S1; clear S1
                refine wl_pure (l' := [(20, v1), (5, .int .i64 c_4), (13, .int .i64 c_4), (12, .int .i64 (lenI x0)), (0, v0), (1, v1)]) S tys tys_ok 1 (by kernel_rfl) ?_; clear S; intro a S
                refine wpList_nil ?_
                exact RPost.mk_ S rfl S0 R1 (Below.refl _ _)
              refine RunAll.cons (isI .i64 c_4) [] rfl rfl ?_ ?_
              · intro W_ hW
                have S1 := S
                refine fill_nil S1 ?_; clear S1; intro a_ S1
                have S0 := S.defers; replace S := S1; clear S1
                refine wl_pure (l' := [(21, .int .i64 c_4), (5, .int .i64 c_4), (13, .int .i64 c_4), (12, .int .i64 (lenI x0)), (0, v0), (1, v1)]) S tys tys_ok 1 (by kernel_rfl) ?_; clear S; intro a S
                refine wpList_nil ?_
                exact RPost.mk_ S rfl S0 ⟨rfl, G_5⟩ (Below.refl _ _)
              refine RunAll.cons (isEl (.int .u8) (Kx K w.heap.size []) y_19) [(isRep (.sl (.int .u8)) (Kx K w.heap.size []) x1, 20), (isI .i64 c_4, 21)] rfl rfl ?_ ?_
              · intro W_ hW
                have S1 := S
                intro v_40 hF_39; replace hF_39 : RepV _ _ _ _ _ := hF_39
                replace S1 := S1.put (by decide : 20 < 26) (v_40)
                rintro _ ⟨rfl, hF_41⟩
                replace S1 := S1.put (by decide : 21 < 26) (.int .i64 c_4)
                refine fill_nil S1 ?_; clear S1; intro a_ S1
                replace W := W.step hW
                have S0 := S.defers; replace S := S1; clear S1
                refine w_go S rfl (op_indexAddr S rfl ty23 rfl rfl rfl hF_39 rfl ey_19 ?_)
                clear S; intro a p_43 R_44 H_45 S
                refine wpList_nil ?_
                exact RPost.mk_ S rfl S0 ⟨_, rfl, R_44, H_45⟩ (Below.refl _ _)
              refine RunAll.cons (isI .u8 y_19) [(isEl (.int .u8) (Kx K w.heap.size []) y_19, 22)] rfl rfl ?_ ?_
              · intro W_ hW
                have S1 := S
                rintro _ ⟨p_48, rfl, R_49, H_50⟩
                replace S1 := S1.put (by decide : 22 < 26) (.pointer (some p_48))
                refine fill_nil S1 ?_; clear S1; intro a_ S1
                have S0 := S.defers; replace S := S1; clear S1
                refine w_go S rfl (op_load (t := (.int .u8)) (x := y_19) S rfl ty5 rfl rfl rfl R_49 ?_)
                clear S; intro a v_51 R_52 S
                obtain ⟨rfl, GR_52⟩ := RepV.int R_52
                refine wpList_nil ?_
                exact RPost.mk_ S rfl S0 ⟨rfl, GR_52⟩ (Below.refl _ _)
              refine RunAll.cons (eqv (.bool (y_13 != y_19))) [(isI .u8 y_13, 19), (isI .u8 y_19, 23)] rfl rfl ?_ ?_
              · intro W_ hW
                have S1 := S
                rintro _ ⟨rfl, hF_53⟩
                replace S1 := S1.put (by decide : 19 < 26) (.int .u8 y_13)
                rintro _ ⟨rfl, hF_55⟩
                replace S1 := S1.put (by decide : 23 < 26) (.int .u8 y_19)
                refine fill_nil S1 ?_; clear S1; intro a_ S1
                have S0 := S.defers; replace S := S1; clear S1
                refine wl_pure (l' := [(24, .bool (y_13 != y_19)), (23, .int .u8 y_19), (19, .int .u8 y_13), (5, .int .i64 c_4), (13, .int .i64 c_4), (12, .int .i64 (lenI x0)), (0, v0), (1, v1)]) S tys tys_ok 1 (by kernel_rfl) ?_; clear S; intro a S
                refine wpList_nil ?_
                exact RPost.mk_ S rfl S0 rfl (Below.refl _ _)
              exact trivial
            intro w_57 hb_58
            refine EndE.some_ rfl ?_
            intro v_60 hF_59; replace hF_59 : RepV _ _ _ _ _ := hF_59
            replace S := S.put (by decide : 16 < 26) (v_60)
            refine EndE.some_ rfl ?_
            rintro _ ⟨rfl, hF_61⟩
            replace S := S.put (by decide : 17 < 26) (.int .i64 c_4)
            refine EndE.some_ rfl ?_
            rintro _ ⟨p_65, rfl, R_66, H_67⟩
            replace S := S.put (by decide : 18 < 26) (.pointer (some p_65))
            refine EndE.some_ rfl ?_
            rintro _ ⟨rfl, hF_68⟩
            replace S := S.put (by decide : 19 < 26) (.int .u8 y_13)
            refine EndE.some_ rfl ?_
            intro v_71 hF_70; replace hF_70 : RepV _ _ _ _ _ := hF_70
            replace S := S.put (by decide : 20 < 26) (v_71)
            refine EndE.some_ rfl ?_
            rintro _ ⟨rfl, hF_72⟩
            replace S := S.put (by decide : 21 < 26) (.int .i64 c_4)
            refine EndE.some_ rfl ?_
            rintro _ ⟨p_76, rfl, R_77, H_78⟩
            replace S := S.put (by decide : 22 < 26) (.pointer (some p_76))
            refine EndE.some_ rfl ?_
            rintro _ ⟨rfl, hF_79⟩
            replace S := S.put (by decide : 23 < 26) (.int .u8 y_19)
            refine EndE.some_ rfl ?_
            intro v_82 hF_81; obtain rfl : .bool (y_13 != y_19) = v_82 := Eq.symm hF_81
            replace S := S.put (by decide : 24 < 26) (.bool (y_13 != y_19))
            refine endE_nil S ?_; clear S; intro a S
            replace R0 := R0.step hb_58
            replace R1 := R1.step hb_58
            replace W := W.step hb_58
            refine then_n ?_
            replace S := S.sub (l' := [(24, .bool (y_13 != y_19)), (13, .int .i64 c_4), (12, .int .i64 (lenI x0)), (0, v0), (1, v1)]) (by exact ⟨rfl, rfl, rfl, rfl, rfl, trivial⟩)
            refine wp_cond_split (S.eval (show ev _ _ = some (.bool (y_13 != y_19)) from rfl)) ?_ ?_
            · intro hc
              rw [if_pos hc] at hl_11
              refine wp_seq ?_
              refine wp_region_lit ?_
              refine wl_pure (l' := [(4, .bool false), (24, .bool (y_13 != y_19)), (13, .int .i64 c_4), (12, .int .i64 (lenI x0)), (0, v0), (1, v1)]) S tys tys_ok 1 (by kernel_rfl) ?_
              clear S; intro a S
              refine wpList_nil ?_
              refine then_n ?_
              replace S := S.sub (l' := [(4, .bool false)]) (by exact ⟨rfl, trivial⟩)
              refine wp_ret ?_
              refine blk_r ?_
              refine then_r ?_
              refine then_r ?_
              refine blk_r ?_
              refine then_r ?_
              refine then_r ?_
              obtain rfl := Option.some.inj hl_11
              obtain rfl := lr_inr h
              exact b_ret1 S rfl rfl ⟨_, rfl, RepV.mkBool, W.below⟩
            · intro hc
              rw [if_neg (Bool.eq_false_iff.1 hc)] at hl_11
              refine wp_skip ?_
              refine blk_n ?_
              refine then_n ?_
              replace S := S.sub (l' := [(13, .int .i64 c_4), (12, .int .i64 (lenI x0)), (0, v0), (1, v1)]) (by exact ⟨rfl, rfl, rfl, rfl, trivial⟩)
              refine wp_region_lit ?_
              obtain ⟨x_83, ex_83, hl_11⟩ := bindS hl_11
              refine w_go S rfl (op_arith S .i64 (c_4 + 1) rfl (.inl rfl) rfl rfl rfl rfl ex_83 ?_)
              clear S; intro a S
              refine wl_pure (l' := [(13, .int .i64 x_83), (25, .int .i64 x_83), (13, .int .i64 c_4), (12, .int .i64 (lenI x0)), (0, v0), (1, v1)]) S tys tys_ok 1 (by kernel_rfl) ?_
              clear S; intro a S
              refine wpList_nil ?_
              refine then_n ?_
              exact ⟨x_83, ⟨S.sub (by exact ⟨rfl, rfl, rfl, rfl, trivial⟩), W, (ckI_some ex_83).2.1, R0, R1, hl_11⟩⟩
          · intro hc
            rw [if_neg (Bool.eq_false_iff.1 hc)] at hl_11
            refine wp_exit ?_
            refine then_x ?_
            refine then_x ?_
            refine blk_hit ?_
            refine then_n ?_
            obtain rfl := Option.some.inj hl_11
            exact ⟨_, rfl, ⟨S.sub trivial, W⟩⟩
    clear S W; rintro a w_84 ⟨s_9, rfl, S, W⟩
    replace h := lr_inl h; try dsimp only at h
    refine then_n ?_
    refine wp_seq ?_
    refine wp_region_lit ?_
    refine wl_pure (l' := [(4, .bool true)]) S tys tys_ok 1 (by kernel_rfl) ?_
    clear S; intro a S
    refine wpList_nil ?_
    refine then_n ?_
    refine wp_ret ?_
    obtain rfl := Option.some.inj h
    exact b_ret1 S rfl rfl ⟨_, rfl, RepV.mkBool, W.below⟩
theorem cb55 : callB Try.prog 55 = true := by kernel_rfl
def p46 (n : Nat) (x0 : Sl (Int)) (x1 : Int) : Option ((Int)) :=
  (idx x0.xs x1).bind fun y_1 =>
  (ckI .i64 (x1 + 1)).bind fun x_7 =>
  (idx x0.xs x_7).bind fun y_8 =>
  (shlI .u16 y_8 8).bind fun x_14 =>
  some (bitsI .or .u16 y_1 x_14)
set_option maxHeartbeats 4000000 in
set_option maxRecDepth 100000 in
/-- plugboard/descriptors.two -/
theorem c46 (K : Nat → Prop) (n : Nat) (w : World) (x0 : Sl (Int)) (v0 : Value) (R0 : RepV (.sl (.int .u8)) w K v0 x0) (x1 : Int) (G1 : InR .i64 x1) {r : (Int)} (h : p46 n x0 x1 = some r) :
    Calls Try.prog 46 #[v0, .int .i64 x1] w (Ret1 (.int .u16) w (Kx K w.heap.size []) r) := by
  refine enter (args := [v0, .int .i64 x1]) Try.func46 rfl 18 rfl rfl fun a S => ?_
  have W := Wd.start w
  replace R0 := R0.arg
  unfold p46 at h
  replace S : St 18 a [(0, v0), (1, .int .i64 x1)] := S
  refine wp_seq ?_
  refine wp_region_lit ?_
  refine wl_pure (l' := [(4, .int .u16 0), (0, v0), (1, .int .i64 x1)]) S tys tys_ok 1 (by kernel_rfl) ?_
  clear S; intro a S
  refine wpList_nil ?_
  refine then_n ?_
  replace S := S.sub (l' := [(0, v0), (1, .int .i64 x1)]) (by exact ⟨rfl, rfl, trivial⟩)
  refine wp_seq ?_
  obtain ⟨y_1, ey_1, h⟩ := bindS h
  obtain ⟨x_7, ex_7, h⟩ := bindS h
  obtain ⟨y_8, ey_8, h⟩ := bindS h
  obtain ⟨x_14, ex_14, h⟩ := bindS h
  have hR : Rel (Kx K w.heap.size []) Bl := Bl.rel _
  refine wp_region_all hR [isRep (.sl (.int .u8)) (Kx K w.heap.size []) x0, isI .i64 x1, isEl (.int .u8) (Kx K w.heap.size []) y_1, isI .u8 y_1, isI .u16 y_1, isRep (.sl (.int .u8)) (Kx K w.heap.size []) x0, isI .i64 x1, isI .i64 x_7, isEl (.int .u8) (Kx K w.heap.size []) y_8, isI .u8 y_8, isI .u16 y_8, isI .u16 x_14, isI .u16 (bitsI .or .u16 y_1 x_14), isI .u16 (bitsI .or .u16 y_1 x_14)] [[], [], [(0, 5), (1, 6)], [(2, 7)], [(3, 8)], [], [], [(6, 11)], [(5, 10), (7, 12)], [(8, 13)], [(9, 14)], [(10, 15)], [(4, 9), (11, 16)], [(12, 17)]] (by kernel_rfl) (by rw [S.size]; kernel_rfl) (by kernel_rfl) (by kernel_rfl) rfl ⟨(stab_rep hR), stab_I, (stab_el hR), stab_I, stab_I, (stab_rep hR), stab_I, stab_I, (stab_el hR), stab_I, stab_I, stab_I, stab_I, stab_I, trivial⟩ ?_ ?_
  ·
    refine RunAll.cons (isRep (.sl (.int .u8)) (Kx K w.heap.size []) x0) [] rfl rfl ?_ ?_
    · intro W_ hW
      have S1 := S
      refine fill_nil S1 ?_; clear S1; intro a_ S1
      replace R0 := R0.step hW
      have S0 := S.defers; replace S := S1; clear S1
      refine wl_pure (l' := [(5, v0), (0, v0), (1, .int .i64 x1)]) S tys tys_ok 1 (by kernel_rfl) ?_; clear S; intro a S
      refine wpList_nil ?_
      exact RPost.mk_ S rfl S0 R0 (Below.refl _ _)
    refine RunAll.cons (isI .i64 x1) [] rfl rfl ?_ ?_
    · intro W_ hW
      have S1 := S
      refine fill_nil S1 ?_; clear S1; intro a_ S1
      have S0 := S.defers; replace S := S1; clear S1
      refine wl_pure (l' := [(6, .int .i64 x1), (0, v0), (1, .int .i64 x1)]) S tys tys_ok 1 (by kernel_rfl) ?_; clear S; intro a S
      refine wpList_nil ?_
      exact RPost.mk_ S rfl S0 ⟨rfl, G1⟩ (Below.refl _ _)
    refine RunAll.cons (isEl (.int .u8) (Kx K w.heap.size []) y_1) [(isRep (.sl (.int .u8)) (Kx K w.heap.size []) x0, 5), (isI .i64 x1, 6)] rfl rfl ?_ ?_
    · intro W_ hW
      have S1 := S
      intro v_16 hF_15; replace hF_15 : RepV _ _ _ _ _ := hF_15
      replace S1 := S1.put (by decide : 5 < 18) (v_16)
      rintro _ ⟨rfl, hF_17⟩
      replace S1 := S1.put (by decide : 6 < 18) (.int .i64 x1)
      refine fill_nil S1 ?_; clear S1; intro a_ S1
      replace W := W.step hW
      have S0 := S.defers; replace S := S1; clear S1
      refine w_go S rfl (op_indexAddr S rfl ty23 rfl rfl rfl hF_15 rfl ey_1 ?_)
      clear S; intro a p_19 R_20 H_21 S
      refine wpList_nil ?_
      exact RPost.mk_ S rfl S0 ⟨_, rfl, R_20, H_21⟩ (Below.refl _ _)
    refine RunAll.cons (isI .u8 y_1) [(isEl (.int .u8) (Kx K w.heap.size []) y_1, 7)] rfl rfl ?_ ?_
    · intro W_ hW
      have S1 := S
      rintro _ ⟨p_24, rfl, R_25, H_26⟩
      replace S1 := S1.put (by decide : 7 < 18) (.pointer (some p_24))
      refine fill_nil S1 ?_; clear S1; intro a_ S1
      have S0 := S.defers; replace S := S1; clear S1
      refine w_go S rfl (op_load (t := (.int .u8)) (x := y_1) S rfl ty5 rfl rfl rfl R_25 ?_)
      clear S; intro a v_27 R_28 S
      obtain ⟨rfl, GR_28⟩ := RepV.int R_28
      refine wpList_nil ?_
      exact RPost.mk_ S rfl S0 ⟨rfl, GR_28⟩ (Below.refl _ _)
    refine RunAll.cons (isI .u16 y_1) [(isI .u8 y_1, 8)] rfl rfl ?_ ?_
    · intro W_ hW
      have S1 := S
      rintro _ ⟨rfl, hF_29⟩
      replace S1 := S1.put (by decide : 8 < 18) (.int .u8 y_1)
      refine fill_nil S1 ?_; clear S1; intro a_ S1
      replace W := W.step hW
      have S0 := S.defers; replace S := S1; clear S1
      refine w_go S rfl (op_conv S .u16 .bool .bool rfl ty5 ty33 rfl rfl rfl (widen hF_29 (by decide)).1 ?_)
      clear S; intro a S
      refine wpList_nil ?_
      exact RPost.mk_ S rfl S0 ⟨rfl, (widen hF_29 (by decide)).2⟩ (Below.refl _ _)
    refine RunAll.cons (isRep (.sl (.int .u8)) (Kx K w.heap.size []) x0) [] rfl rfl ?_ ?_
    · intro W_ hW
      have S1 := S
      refine fill_nil S1 ?_; clear S1; intro a_ S1
      replace R0 := R0.step hW
      have S0 := S.defers; replace S := S1; clear S1
      refine wl_pure (l' := [(10, v0), (0, v0), (1, .int .i64 x1)]) S tys tys_ok 1 (by kernel_rfl) ?_; clear S; intro a S
      refine wpList_nil ?_
      exact RPost.mk_ S rfl S0 R0 (Below.refl _ _)
    refine RunAll.cons (isI .i64 x1) [] rfl rfl ?_ ?_
    · intro W_ hW
      have S1 := S
      refine fill_nil S1 ?_; clear S1; intro a_ S1
      have S0 := S.defers; replace S := S1; clear S1
      refine wl_pure (l' := [(11, .int .i64 x1), (0, v0), (1, .int .i64 x1)]) S tys tys_ok 1 (by kernel_rfl) ?_; clear S; intro a S
      refine wpList_nil ?_
      exact RPost.mk_ S rfl S0 ⟨rfl, G1⟩ (Below.refl _ _)
    refine RunAll.cons (isI .i64 x_7) [(isI .i64 x1, 11)] rfl rfl ?_ ?_
    · intro W_ hW
      have S1 := S
      rintro _ ⟨rfl, hF_31⟩
      replace S1 := S1.put (by decide : 11 < 18) (.int .i64 x1)
      refine fill_nil S1 ?_; clear S1; intro a_ S1
      have S0 := S.defers; replace S := S1; clear S1
      refine w_go S rfl (op_arith S .i64 (x1 + 1) rfl (.inl rfl) rfl rfl rfl rfl ex_7 ?_)
      clear S; intro a S
      refine wpList_nil ?_
      exact RPost.mk_ S rfl S0 ⟨rfl, (ckI_some ex_7).2.1⟩ (Below.refl _ _)
    refine RunAll.cons (isEl (.int .u8) (Kx K w.heap.size []) y_8) [(isRep (.sl (.int .u8)) (Kx K w.heap.size []) x0, 10), (isI .i64 x_7, 12)] rfl rfl ?_ ?_
    · intro W_ hW
      have S1 := S
      intro v_34 hF_33; replace hF_33 : RepV _ _ _ _ _ := hF_33
      replace S1 := S1.put (by decide : 10 < 18) (v_34)
      rintro _ ⟨rfl, hF_35⟩
      replace S1 := S1.put (by decide : 12 < 18) (.int .i64 x_7)
      refine fill_nil S1 ?_; clear S1; intro a_ S1
      replace W := W.step hW
      have S0 := S.defers; replace S := S1; clear S1
      refine w_go S rfl (op_indexAddr S rfl ty23 rfl rfl rfl hF_33 rfl ey_8 ?_)
      clear S; intro a p_37 R_38 H_39 S
      refine wpList_nil ?_
      exact RPost.mk_ S rfl S0 ⟨_, rfl, R_38, H_39⟩ (Below.refl _ _)
    refine RunAll.cons (isI .u8 y_8) [(isEl (.int .u8) (Kx K w.heap.size []) y_8, 13)] rfl rfl ?_ ?_
    · intro W_ hW
      have S1 := S
      rintro _ ⟨p_42, rfl, R_43, H_44⟩
      replace S1 := S1.put (by decide : 13 < 18) (.pointer (some p_42))
      refine fill_nil S1 ?_; clear S1; intro a_ S1
      have S0 := S.defers; replace S := S1; clear S1
      refine w_go S rfl (op_load (t := (.int .u8)) (x := y_8) S rfl ty5 rfl rfl rfl R_43 ?_)
      clear S; intro a v_45 R_46 S
      obtain ⟨rfl, GR_46⟩ := RepV.int R_46
      refine wpList_nil ?_
      exact RPost.mk_ S rfl S0 ⟨rfl, GR_46⟩ (Below.refl _ _)
    refine RunAll.cons (isI .u16 y_8) [(isI .u8 y_8, 14)] rfl rfl ?_ ?_
    · intro W_ hW
      have S1 := S
      rintro _ ⟨rfl, hF_47⟩
      replace S1 := S1.put (by decide : 14 < 18) (.int .u8 y_8)
      refine fill_nil S1 ?_; clear S1; intro a_ S1
      replace W := W.step hW
      have S0 := S.defers; replace S := S1; clear S1
      refine w_go S rfl (op_conv S .u16 .bool .bool rfl ty5 ty33 rfl rfl rfl (widen hF_47 (by decide)).1 ?_)
      clear S; intro a S
      refine wpList_nil ?_
      exact RPost.mk_ S rfl S0 ⟨rfl, (widen hF_47 (by decide)).2⟩ (Below.refl _ _)
    refine RunAll.cons (isI .u16 x_14) [(isI .u16 y_8, 15)] rfl rfl ?_ ?_
    · intro W_ hW
      have S1 := S
      rintro _ ⟨rfl, hF_49⟩
      replace S1 := S1.put (by decide : 15 < 18) (.int .u16 y_8)
      refine fill_nil S1 ?_; clear S1; intro a_ S1
      have S0 := S.defers; replace S := S1; clear S1
      refine w_go S rfl (op_shl S .u16 .u64 rfl rfl rfl rfl rfl ex_14 ?_)
      clear S; intro a S
      refine wpList_nil ?_
      exact RPost.mk_ S rfl S0 ⟨rfl, (inR_shl ex_14)⟩ (Below.refl _ _)
    refine RunAll.cons (isI .u16 (bitsI .or .u16 y_1 x_14)) [(isI .u16 y_1, 9), (isI .u16 x_14, 16)] rfl rfl ?_ ?_
    · intro W_ hW
      have S1 := S
      rintro _ ⟨rfl, hF_51⟩
      replace S1 := S1.put (by decide : 9 < 18) (.int .u16 y_1)
      rintro _ ⟨rfl, hF_53⟩
      replace S1 := S1.put (by decide : 16 < 18) (.int .u16 x_14)
      refine fill_nil S1 ?_; clear S1; intro a_ S1
      have S0 := S.defers; replace S := S1; clear S1
      refine wl_pure (l' := [(17, .int .u16 (bitsI .or .u16 y_1 x_14)), (16, .int .u16 x_14), (9, .int .u16 y_1), (0, v0), (1, .int .i64 x1)]) S tys tys_ok 1 (by kernel_rfl) ?_; clear S; intro a S
      refine wpList_nil ?_
      exact RPost.mk_ S rfl S0 ⟨rfl, inR_bits⟩ (Below.refl _ _)
    refine RunAll.cons (isI .u16 (bitsI .or .u16 y_1 x_14)) [(isI .u16 (bitsI .or .u16 y_1 x_14), 17)] rfl rfl ?_ ?_
    · intro W_ hW
      have S1 := S
      rintro _ ⟨rfl, hF_55⟩
      replace S1 := S1.put (by decide : 17 < 18) (.int .u16 (bitsI .or .u16 y_1 x_14))
      refine fill_nil S1 ?_; clear S1; intro a_ S1
      have S0 := S.defers; replace S := S1; clear S1
      refine wl_pure (l' := [(4, .int .u16 (bitsI .or .u16 y_1 x_14)), (17, .int .u16 (bitsI .or .u16 y_1 x_14)), (0, v0), (1, .int .i64 x1)]) S tys tys_ok 1 (by kernel_rfl) ?_; clear S; intro a S
      refine wpList_nil ?_
      exact RPost.mk_ S rfl S0 ⟨rfl, hF_55⟩ (Below.refl _ _)
    exact trivial
  intro w_57 hb_58
  refine EndE.some_ rfl ?_
  intro v_60 hF_59; replace hF_59 : RepV _ _ _ _ _ := hF_59
  replace S := S.put (by decide : 5 < 18) (v_60)
  refine EndE.some_ rfl ?_
  rintro _ ⟨rfl, hF_61⟩
  replace S := S.put (by decide : 6 < 18) (.int .i64 x1)
  refine EndE.some_ rfl ?_
  rintro _ ⟨p_65, rfl, R_66, H_67⟩
  replace S := S.put (by decide : 7 < 18) (.pointer (some p_65))
  refine EndE.some_ rfl ?_
  rintro _ ⟨rfl, hF_68⟩
  replace S := S.put (by decide : 8 < 18) (.int .u8 y_1)
  refine EndE.some_ rfl ?_
  rintro _ ⟨rfl, hF_70⟩
  replace S := S.put (by decide : 9 < 18) (.int .u16 y_1)
  refine EndE.some_ rfl ?_
  intro v_73 hF_72; replace hF_72 : RepV _ _ _ _ _ := hF_72
  replace S := S.put (by decide : 10 < 18) (v_73)
  refine EndE.some_ rfl ?_
  rintro _ ⟨rfl, hF_74⟩
  replace S := S.put (by decide : 11 < 18) (.int .i64 x1)
  refine EndE.some_ rfl ?_
  rintro _ ⟨rfl, hF_76⟩
  replace S := S.put (by decide : 12 < 18) (.int .i64 x_7)
  refine EndE.some_ rfl ?_
  rintro _ ⟨p_80, rfl, R_81, H_82⟩
  replace S := S.put (by decide : 13 < 18) (.pointer (some p_80))
  refine EndE.some_ rfl ?_
  rintro _ ⟨rfl, hF_83⟩
  replace S := S.put (by decide : 14 < 18) (.int .u8 y_8)
  refine EndE.some_ rfl ?_
  rintro _ ⟨rfl, hF_85⟩
  replace S := S.put (by decide : 15 < 18) (.int .u16 y_8)
  refine EndE.some_ rfl ?_
  rintro _ ⟨rfl, hF_87⟩
  replace S := S.put (by decide : 16 < 18) (.int .u16 x_14)
  refine EndE.some_ rfl ?_
  rintro _ ⟨rfl, hF_89⟩
  replace S := S.put (by decide : 17 < 18) (.int .u16 (bitsI .or .u16 y_1 x_14))
  refine EndE.some_ rfl ?_
  rintro _ ⟨rfl, hF_91⟩
  replace S := S.put (by decide : 4 < 18) (.int .u16 (bitsI .or .u16 y_1 x_14))
  refine endE_nil S ?_; clear S; intro a S
  replace R0 := R0.step hb_58
  replace W := W.step hb_58
  refine then_n ?_
  replace S := S.sub (l' := [(4, .int .u16 (bitsI .or .u16 y_1 x_14))]) (by exact ⟨rfl, trivial⟩)
  refine wp_ret ?_
  obtain rfl := Option.some.inj h
  exact b_ret1 S rfl rfl ⟨_, rfl, (RepV.mkInt hF_91), W.below⟩
theorem cb46 : callB Try.prog 46 = true := by kernel_rfl
def p22 (n : Nat) (x0 : Int) (x1 : Int) (x2 : Int) : Option ((Bool)) :=
  if (x1 != x2) then (some (x0 == 5)) else some (x0 == 4)
set_option maxHeartbeats 4000000 in
set_option maxRecDepth 100000 in
/-- plugboard/plugboardlaw13.refused -/
theorem c22 (K : Nat → Prop) (n : Nat) (w : World) (x0 : Int) (G0 : InR .i64 x0) (x1 : Int) (G1 : InR .i64 x1) (x2 : Int) (G2 : InR .i64 x2) {r : (Bool)} (h : p22 n x0 x1 x2 = some r) :
    Calls Try.prog 22 #[.int .i64 x0, .int .i64 x1, .int .i64 x2] w (Ret1 .bool w (Kx K w.heap.size []) r) := by
  refine enter (args := [.int .i64 x0, .int .i64 x1, .int .i64 x2]) Try.func22 rfl 14 rfl rfl fun a S => ?_
  have W := Wd.start w
  unfold p22 at h
  replace S : St 14 a [(0, .int .i64 x0), (1, .int .i64 x1), (2, .int .i64 x2)] := S
  refine wp_seq ?_
  refine wp_region_lit ?_
  refine wl_pure (l' := [(6, .bool false), (0, .int .i64 x0), (1, .int .i64 x1), (2, .int .i64 x2)]) S tys tys_ok 1 (by kernel_rfl) ?_
  clear S; intro a S
  refine wpList_nil ?_
  refine then_n ?_
  replace S := S.sub (l' := [(0, .int .i64 x0), (1, .int .i64 x1), (2, .int .i64 x2)]) (by exact ⟨rfl, rfl, rfl, trivial⟩)
  refine wp_seq ?_
  refine wp_seq ?_
  refine wp_region_lit ?_
  refine wl_pure (l' := [(9, .bool (x1 != x2)), (8, .int .i64 x2), (7, .int .i64 x1), (0, .int .i64 x0), (1, .int .i64 x1), (2, .int .i64 x2)]) S tys tys_ok 3 (by kernel_rfl) ?_
  clear S; intro a S
  refine wpList_nil ?_
  refine then_n ?_
  replace S := S.sub (l' := [(9, .bool (x1 != x2)), (0, .int .i64 x0)]) (by exact ⟨rfl, rfl, trivial⟩)
  refine wp_cond_split (S.eval (show ev _ _ = some (.bool (x1 != x2)) from rfl)) ?_ ?_
  · intro hc
    rw [if_pos hc] at h
    refine wp_seq ?_
    refine wp_region_lit ?_
    refine wl_pure (l' := [(6, .bool (x0 == 5)), (11, .bool (x0 == 5)), (10, .int .i64 x0), (9, .bool (x1 != x2)), (0, .int .i64 x0)]) S tys tys_ok 3 (by kernel_rfl) ?_
    clear S; intro a S
    refine wpList_nil ?_
    refine then_n ?_
    replace S := S.sub (l' := [(6, .bool (x0 == 5))]) (by exact ⟨rfl, trivial⟩)
    refine wp_ret ?_
    refine then_r ?_
    obtain rfl := Option.some.inj h
    exact b_ret1 S rfl rfl ⟨_, rfl, RepV.mkBool, W.below⟩
  · intro hc
    rw [if_neg (Bool.eq_false_iff.1 hc)] at h
    refine wp_skip ?_
    refine then_n ?_
    replace S := S.sub (l' := [(0, .int .i64 x0)]) (by exact ⟨rfl, trivial⟩)
    refine wp_seq ?_
    refine wp_region_lit ?_
    refine wl_pure (l' := [(6, .bool (x0 == 4)), (13, .bool (x0 == 4)), (12, .int .i64 x0), (0, .int .i64 x0)]) S tys tys_ok 3 (by kernel_rfl) ?_
    clear S; intro a S
    refine wpList_nil ?_
    refine then_n ?_
    replace S := S.sub (l' := [(6, .bool (x0 == 4))]) (by exact ⟨rfl, trivial⟩)
    refine wp_ret ?_
    obtain rfl := Option.some.inj h
    exact b_ret1 S rfl rfl ⟨_, rfl, RepV.mkBool, W.below⟩
theorem cb22 : callB Try.prog 22 = true := by kernel_rfl
def p42 (n : Nat) (x0 : Int) : Option ((Int)) :=
  some (IntKind.wrap .u8 x0)
set_option maxHeartbeats 4000000 in
set_option maxRecDepth 100000 in
/-- plugboard/descriptors.low -/
theorem c42 (K : Nat → Prop) (n : Nat) (w : World) (x0 : Int) (G0 : InR .u16 x0) {r : (Int)} (h : p42 n x0 = some r) :
    Calls Try.prog 42 #[.int .u16 x0] w (Ret1 (.int .u8) w (Kx K w.heap.size []) r) := by
  refine enter (args := [.int .u16 x0]) Try.func42 rfl 5 rfl rfl fun a S => ?_
  have W := Wd.start w
  unfold p42 at h
  replace S : St 5 a [(0, .int .u16 x0)] := S
  refine wp_seq ?_
  refine wp_region_lit ?_
  refine wl_pure (l' := [(2, .int .u8 0), (0, .int .u16 x0)]) S tys tys_ok 1 (by kernel_rfl) ?_
  clear S; intro a S
  refine wpList_nil ?_
  refine then_n ?_
  replace S := S.sub (l' := [(0, .int .u16 x0)]) (by exact ⟨rfl, trivial⟩)
  refine wp_seq ?_
  refine wp_region_lit ?_
  refine wl_pure (l' := [(2, .int .u8 (IntKind.wrap .u8 x0)), (4, .int .u8 (IntKind.wrap .u8 x0)), (3, .int .u16 x0), (0, .int .u16 x0)]) S tys tys_ok 3 (by kernel_rfl) ?_
  clear S; intro a S
  refine wpList_nil ?_
  refine then_n ?_
  replace S := S.sub (l' := [(2, .int .u8 (IntKind.wrap .u8 x0))]) (by exact ⟨rfl, trivial⟩)
  refine wp_ret ?_
  obtain rfl := Option.some.inj h
  exact b_ret1 S rfl rfl ⟨_, rfl, (RepV.mkInt (inR_wrap _ _)), W.below⟩
theorem cb42 : callB Try.prog 42 = true := by kernel_rfl
def p43 (n : Nat) (x0 : Int) : Option ((Int)) :=
  (shrI x0 8 .u16).bind fun x_1 =>
  some (IntKind.wrap .u8 x_1)
set_option maxHeartbeats 4000000 in
set_option maxRecDepth 100000 in
/-- plugboard/descriptors.high -/
theorem c43 (K : Nat → Prop) (n : Nat) (w : World) (x0 : Int) (G0 : InR .u16 x0) {r : (Int)} (h : p43 n x0 = some r) :
    Calls Try.prog 43 #[.int .u16 x0] w (Ret1 (.int .u8) w (Kx K w.heap.size []) r) := by
  refine enter (args := [.int .u16 x0]) Try.func43 rfl 6 rfl rfl fun a S => ?_
  have W := Wd.start w
  unfold p43 at h
  replace S : St 6 a [(0, .int .u16 x0)] := S
  refine wp_seq ?_
  refine wp_region_lit ?_
  refine wl_pure (l' := [(2, .int .u8 0), (0, .int .u16 x0)]) S tys tys_ok 1 (by kernel_rfl) ?_
  clear S; intro a S
  refine wpList_nil ?_
  refine then_n ?_
  replace S := S.sub (l' := [(0, .int .u16 x0)]) (by exact ⟨rfl, trivial⟩)
  refine wp_seq ?_
  refine wp_region_lit ?_
  refine wl_pure (l' := [(3, .int .u16 x0), (0, .int .u16 x0)]) S tys tys_ok 1 (by kernel_rfl) ?_
  clear S; intro a S
  obtain ⟨x_1, ex_1, h⟩ := bindS h
  refine w_go S rfl (op_shr S .u16 .u64 rfl rfl rfl rfl rfl ex_1 ?_)
  clear S; intro a S
  refine wl_pure (l' := [(2, .int .u8 (IntKind.wrap .u8 x_1)), (5, .int .u8 (IntKind.wrap .u8 x_1)), (4, .int .u16 x_1), (3, .int .u16 x0), (0, .int .u16 x0)]) S tys tys_ok 2 (by kernel_rfl) ?_
  clear S; intro a S
  refine wpList_nil ?_
  refine then_n ?_
  replace S := S.sub (l' := [(2, .int .u8 (IntKind.wrap .u8 x_1))]) (by exact ⟨rfl, trivial⟩)
  refine wp_ret ?_
  obtain rfl := Option.some.inj h
  exact b_ret1 S rfl rfl ⟨_, rfl, (RepV.mkInt (inR_wrap _ _)), W.below⟩
theorem cb43 : callB Try.prog 43 = true := by kernel_rfl

end Go.Proofs.Ytojifdijcanbpaa
