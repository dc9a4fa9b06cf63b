/- Functions of the program, as plain data. -/
import Derived.Test.YtlgalcekkffhnaaP2
set_option linter.unusedVariables false
set_option linter.unusedSimpArgs false
namespace Go.Proofs.Ytlgalcekkffhnaa
open Go.RowKit

def p5_l1 (n : Nat) (x_2 : Int) : Nat → (Int) → (List (Sl (Int))) → Option ((List (Sl (Int))))
 | 0, _, _ => .none
 | m + 1, c_6, c_8 => (ckI .i64 (64 + x_2)).bind fun x_23 => if (decide (c_6 < x_23)) then ((appI c_8 ([(⟨[IntKind.wrap .u8 c_6], some 1⟩ : Sl (Int))])).bind fun l_32 => (ckI .i64 (c_6 + 1)).bind fun x_37 => p5_l1 n x_2 m x_37 l_32) else some c_8
def p5_l2 (n : Nat)  : Nat → (Int) → (List (Sl (Int))) → Option ((List (Sl (Int))))
 | 0, _, _ => .none
 | m + 1, c_39, c_41 => if (decide (c_39 < 10)) then ((mkI 1514 1514).bind fun m_56 => (appI c_41 ([(⟨(List.replicate m_56.1 (0 : Int)), some m_56.2⟩ : Sl (Int))])).bind fun l_66 => (ckI .i64 (c_39 + 1)).bind fun x_71 => p5_l2 n m x_71 l_66) else some c_41
def p5_l3 (n : Nat)  : Nat → (Int) → (List (Int)) → Option ((List (Int)))
 | 0, _, _ => .none
 | m + 1, c_195, c_197 => if (decide (c_195 < 65)) then ((appI c_197 ([12, 0, 1, 0])).bind fun l_225 => (ckI .i64 (c_195 + 1)).bind fun x_230 => p5_l3 n m x_230 l_225) else some c_197
def p5_l3_a (n : Nat)  : Option ((List (Int))) :=
 (appF (⟨[78, 67, 77, 72, 12, 0, 0, 0, 32, 1, 12, 0, 78, 67, 77, 48, 16, 1, 0, 0], some 20⟩ : Sl (Int)) ([12, 0, 1, 0])).bind fun l_214 => (ckI .i64 (0 + 1)).bind fun x_219 => p5_l3 n n x_219 l_214
def p5 (n : Nat) (x0 : Int) : Option ((Bool)) :=
 (remI .u8 x0 3).bind fun x_1 =>
 (ckI .i64 (x_1 - 1)).bind fun x_2 =>
 (if (decide (x_2 > 0)) then (some 3) else some 0).bind fun (j_3 : (Int)) =>
 (p5_l1 n x_2 n 0 []).bind fun (y_16 : (List (Sl (Int)))) =>
 (p5_l2 n n 0 []).bind fun (y_49 : (List (Sl (Int)))) =>
 (ckI .i64 (4 * x_2)).bind fun x_73 =>
 (ckI .i64 (1156 + x_73)).bind fun x_74 =>
 (mkI x_74 x_74).bind fun m_75 =>
 (appI y_49 ([(⟨(List.replicate m_75.1 (0 : Int)), some m_75.2⟩ : Sl (Int))])).bind fun l_85 =>
 (p11 n (0, (⟨y_16, .none⟩ : Sl (Sl (Int))))).bind fun t_93 =>
 (p11 n (0, (⟨l_85, capA .none l_85.length⟩ : Sl (Sl (Int))))).bind fun t_103 =>
 (ckI .i64 (1514 + x_2)).bind fun x_110 =>
 (mkI x_110 x_110).bind fun m_111 =>
 (p11 n (0, (⟨[(⟨(List.replicate m_111.1 (0 : Int)), some m_111.2⟩ : Sl (Int))], some 1⟩ : Sl (Sl (Int))))).bind fun t_123 =>
 (if (t_93.2 != j_3) = false then some (t_103.2 != j_3) else some true).bind fun q_130 =>
 (if q_130 = false then some (!((t_123.2 == 0) == (decide (x_2 ≤ 0)))) else some true).bind fun q_131 =>
 (if q_131 = false then some (!((t_123.2 == 1) == (decide (x_2 > 0)))) else some true).bind fun q_132 =>
 if q_132 then (some false) else if (decide (x_2 ≤ 0)) then ((p12 n t_93.1).bind fun t_133 => (p12 n t_103.1).bind fun t_146 => (if (t_133.2 == 0) = true then some (t_146.2 == 0) else some false).bind fun q_159 => (if q_159 = true then (p13 n t_133.1.2 (⟨y_16, .none⟩ : Sl (Sl (Int)))).bind fun t_163 => some t_163 else some false).bind fun q_160 => (if q_160 = true then (p13 n t_146.1.2 (⟨l_85, capA .none l_85.length⟩ : Sl (Sl (Int)))).bind fun t_172 => some t_172 else some false).bind fun q_169 => (if q_169 = true then (if (decide (x_2 < 0)) = false then some ((lenI t_103.1) == 16384) else some true).bind fun q_179 => some q_179 else some false).bind fun q_178 => (if q_178 = true then (p8 n).bind fun t_182 => some t_182 else some false).bind fun q_181 => some q_181) else (p5_l3_a n).bind fun (y_205 : (List (Int))) => (appI y_205 ([0, 0, 0, 0])).bind fun l_236 => (ckI .i64 (288 - (lenI (⟨l_236, capA .none l_236.length⟩ : Sl (Int))))).bind fun x_242 => (appZ l_236 x_242 0).bind fun l_243 => (p12 n (⟨l_243, capA (capA .none l_236.length) l_243.length⟩ : Sl (Int))).bind fun t_249 => (if (t_249.2 == 3) = true then (p8 n).bind fun t_263 => some t_263 else some false).bind fun q_262 => some q_262
set_option maxHeartbeats 4000000 in
set_option maxRecDepth 100000 in
/-- plugboard/plugboardlaw43.NetworksLimits -/
theorem c5 (K : Nat → Prop) (n : Nat) (w : World) (x0 : Int) (G0 : InR .u8 x0) {r : (Bool)} (h : p5 n x0 = some r) :
  Calls Try.prog 5 #[.int .u8 x0] w (Ret1 .bool w (Kx K w.heap.size []) r) := by
 refine enter (args := [.int .u8 x0]) Try.func5 rfl 168 rfl rfl fun a S => ?_
 have W := Wd.start w
 unfold p5 at h
 replace S : St 168 a [(0, .int .u8 x0)] := S
 refine wp_seq ?_
 refine wp_region_lit ?_
 refine wl_pure (l' := [(2, .bool false), (0, .int .u8 x0)]) S tys tys_ok 1 (by kernel_rfl) ?_
 clear S; intro a S
 refine wpList_nil ?_
 refine then_n ?_
 replace S := S.sub (l' := [(0, .int .u8 x0)]) (by exact ⟨rfl, trivial⟩)
 refine wp_seq ?_
 refine wp_region_lit ?_
 refine wl_pure (l' := [(23, .int .u8 x0), (0, .int .u8 x0)]) S tys tys_ok 1 (by kernel_rfl) ?_
 clear S; intro a S
 obtain ⟨x_1, ex_1, h⟩ := bindS h
 refine w_go S rfl (op_rem S .u8 rfl rfl rfl rfl rfl ex_1 ?_)
 clear S; intro a S
 refine w_go S rfl (op_conv S .i64 .bool .bool rfl ty5 ty3 rfl rfl rfl (widen (inR_rem ex_1) (by decide)).1 ?_)
 clear S; intro a S
 obtain ⟨x_2, ex_2, h⟩ := bindS h
 refine w_go S rfl (op_arith S .i64 (x_1 - 1) rfl (.inr (.inl rfl)) rfl rfl rfl rfl ex_2 ?_)
 clear S; intro a S
 refine wl_pureK (l' := [(3, .int .i64 x_2)]) S tys tys_ok 1 [3] (by kernel_rfl) ?_
 clear S; intro a S
 refine wpList_nil ?_
 refine then_n ?_
 refine wp_seq ?_
 refine wp_region_lit ?_
 refine wl_pure (l' := [(4, .int .i64 0), (3, .int .i64 x_2)]) S tys tys_ok 1 (by kernel_rfl) ?_
 clear S; intro a S
 refine wpList_nil ?_
 refine then_n ?_
 refine wp_seq ?_
 refine wp_seq ?_
 refine wp_region_lit ?_
 refine wl_pure (l' := [(28, .bool (decide (x_2 > 0))), (27, .int .i64 x_2), (4, .int .i64 0), (3, .int .i64 x_2)]) S tys tys_ok 2 (by kernel_rfl) ?_
 clear S; intro a S
 refine wpList_nil ?_
 refine then_n ?_
 replace S := S.sub (l' := [(28, .bool (decide (x_2 > 0))), (4, .int .i64 0), (3, .int .i64 x_2)]) (by exact ⟨rfl, rfl, rfl, trivial⟩)
 obtain ⟨j_3, ej_3, h⟩ := bindS h
 refine wp_cut_ (fun a_ w_ => St 168 a_ [(4, .int .i64 j_3), (3, .int .i64 x_2)] ∧ Wd w w_ [] ∧ InR .i64 j_3) ?_ ?_
 ·refine wp_cond_split (S.eval (show ev _ _ = some (.bool (decide (x_2 > 0))) from rfl)) ?_ ?_
  ·intro hc
   rw [if_pos hc] at ej_3
   refine wp_region_lit ?_
   refine wl_pure (l' := [(4, .int .i64 3), (28, .bool (decide (x_2 > 0))), (4, .int .i64 0), (3, .int .i64 x_2)]) S tys tys_ok 1 (by kernel_rfl) ?_
   clear S; intro a S
   refine wpList_nil ?_
   refine then_n ?_
   obtain rfl := Option.some.inj ej_3
   exact ⟨S.sub (by exact ⟨rfl, rfl, trivial⟩), W, (by decide)⟩
  ·intro hc
   rw [if_neg (Bool.eq_false_iff.1 hc)] at ej_3
   refine wp_skip ?_
   refine then_n ?_
   obtain rfl := Option.some.inj ej_3
   exact ⟨S.sub (by exact ⟨rfl, rfl, trivial⟩), W, (by decide)⟩
 clear S W; rintro a w_5 ⟨S, W, G_4⟩
 refine then_n ?_
 refine wp_seq ?_
 refine wp_region_lit ?_
 refine wl_pure (l' := [(6, .slice .none 0 0), (5, .slice .none 0 0), (4, .int .i64 j_3), (3, .int .i64 x_2)]) S tys tys_ok 2 (by kernel_rfl) ?_
 clear S; intro a S
 refine wpList_nil ?_
 refine then_n ?_
 refine wp_seq ?_
 refine wp_seq ?_
 refine wp_region_lit ?_
 refine wl_pure (l' := [(7, .int .i64 0), (6, .slice .none 0 0), (5, .slice .none 0 0), (4, .int .i64 j_3), (3, .int .i64 x_2)]) S tys tys_ok 1 (by kernel_rfl) ?_
 clear S; intro a S
 refine wpList_nil ?_
 refine then_n ?_
 obtain ⟨y_16, ey_16, h⟩ := bindS h
 refine wp_cut_ (fun a_ w_ => ∃ (v_17 : Value), St 168 a_ [(3, .int .i64 x_2), (4, .int .i64 j_3), (5, v_17), (6, .slice .none 0 0)] ∧ Wd w w_ [v_17.ownBlock] ∧ Ow (.sl (.int .u8)) 28 w_ w.heap.size (Kx K w.heap.size [v_17.ownBlock]) v_17 y_16 .none) ?_ ?_
 ·refine wp_block ?_
  refine wp_loop_n (fun m_ a_ w_ => ∃ (c_6 : Int) (c_8 : List (Sl (Int))) , ∃ (v_9 : Value), St 168 a_ [(7, .int .i64 c_6), (6, .slice .none 0 0), (5, v_9), (4, .int .i64 j_3), (3, .int .i64 x_2)] ∧ Wd w w_ [v_9.ownBlock] ∧ InR .i64 c_6 ∧ Ow (.sl (.int .u8)) 28 w_ w.heap.size (Kx K w.heap.size [v_9.ownBlock]) v_9 c_8 .none ∧ p5_l1 n x_2 m_ c_6 c_8 = some y_16) n ?_ ?_
  ·skip
   replace W := W.more
   have O_21 : Ow (.sl (.int .u8)) 28 w_5 w.heap.size (Kx K w.heap.size [.none]) (.slice .none 0 0) ([] : List (Sl (Int))) (some 0) := Ow.nil
   exact ⟨0, [], ⟨(.slice .none 0 0), S.sub (by exact ⟨rfl, rfl, rfl, rfl, rfl, trivial⟩), W, (by decide), O_21.forget, ey_16⟩⟩
  ·clear S W; rintro m_19 a w_22 ⟨c_6, c_8, v_9, S, W, G_7, O_10, hl_20⟩
   cases m_19 with
   | zero => exact absurd hl_20 (by simp [p5_l1])
   | succ m_19 =>
    refine ⟨m_19, rfl, ?_⟩
    rw [p5_l1] at hl_20
    refine wp_seq ?_
    refine wp_seq ?_
    refine wp_region_lit ?_
    refine wl_pure (l' := [(30, .int .i64 x_2), (29, .int .i64 c_6), (7, .int .i64 c_6), (6, .slice .none 0 0), (5, v_9), (4, .int .i64 j_3), (3, .int .i64 x_2)]) S tys tys_ok 2 (by kernel_rfl) ?_
    clear S; intro a S
    obtain ⟨x_23, ex_23, hl_20⟩ := bindS hl_20
    refine w_go S rfl (op_arith S .i64 (64 + x_2) rfl (.inl rfl) rfl rfl rfl rfl ex_23 ?_)
    clear S; intro a S
    refine wl_pureK (l' := [(32, .bool (decide (c_6 < x_23))), (7, .int .i64 c_6), (6, .slice .none 0 0), (5, v_9), (4, .int .i64 j_3), (3, .int .i64 x_2)]) S tys tys_ok 1 [32, 7, 6, 5, 4, 3] (by kernel_rfl) ?_
    clear S; intro a S
    refine wpList_nil ?_
    refine then_n ?_
    refine wp_cond_split (S.eval (show ev _ _ = some (.bool (decide (c_6 < x_23))) from rfl)) ?_ ?_
    ·intro hc
     rw [if_pos hc] at hl_20
     refine wp_skip ?_
     refine then_n ?_
     replace S := S.sub (l' := [(7, .int .i64 c_6), (6, .slice .none 0 0), (5, v_9), (4, .int .i64 j_3), (3, .int .i64 x_2)]) (by exact ⟨rfl, rfl, rfl, rfl, rfl, trivial⟩)
     refine wp_seq ?_
     refine wp_block ?_
     refine wp_region_lit ?_
     refine wl_pure (l' := [(37, .int .u8 (IntKind.wrap .u8 c_6)), (36, .int .i64 c_6), (35, v_9), (7, .int .i64 c_6), (6, .slice .none 0 0), (5, v_9), (4, .int .i64 j_3), (3, .int .i64 x_2)]) S tys tys_ok 3 (by kernel_rfl) ?_
     clear S; intro a S
     refine w_go S rfl (op_buildSlice (K := K) (e := (.int .u8)) (vs := [.int .u8 (IntKind.wrap .u8 c_6)]) (xs := [IntKind.wrap .u8 c_6]) S W rfl ty28 rfl rfl (by kernel_rfl) rfl rfl rfl rfl rfl ⟨(RepV.mkInt (inR_wrap _ _)), trivial⟩ ?_)
     clear S; intro a w_27 v_24 hb_26 R_25 S
     replace O_10 := O_10.step hb_26
     replace W := W.step hb_26
     refine w_go S rfl (op_buildSlice (K := K) (e := (.sl (.int .u8))) (vs := [v_24]) (xs := [(⟨[IntKind.wrap .u8 c_6], some 1⟩ : Sl (Int))]) S W rfl ty23 rfl rfl (by kernel_rfl) rfl rfl rfl rfl rfl ⟨R_25, trivial⟩ ?_)
     clear S; intro a w_31 v_28 hb_30 R_29 S
     replace R_25 := R_25.step hb_30
     replace O_10 := O_10.step hb_30
     replace W := W.step hb_30
     obtain ⟨l_32, el_32, hl_20⟩ := bindS hl_20
     refine w_go S rfl (op_append S W (E := 28) 0 rfl ty23 un23 by23 rfl rfl rfl rfl O_10 rfl R_29 el_32 ?_)
     clear S; intro a w_34 v_33 A_35 O_36 S
     replace R_25 : RepV (.sl (.int .u8)) w_34 (Kx K w.heap.size [v_33.ownBlock]) v_24 (⟨[IntKind.wrap .u8 c_6], some 1⟩ : Sl (Int)) := R_25.apd A_35 (i := 0) rfl
     replace R_29 : RepV (.sl (.sl (.int .u8))) w_34 (Kx K w.heap.size [v_33.ownBlock]) v_28 (⟨[(⟨[IntKind.wrap .u8 c_6], some 1⟩ : Sl (Int))], some 1⟩ : Sl (Sl (Int))) := R_29.apd A_35 (i := 0) rfl
     replace W : Wd w w_34 [v_33.ownBlock] := W.apd A_35 (i := 0) rfl
     replace O_36 : Ow (.sl (.int .u8)) 28 w_34 w.heap.size (Kx K w.heap.size [v_33.ownBlock]) v_33 l_32 (capA .none l_32.length) := O_36
     refine wl_pureK (l' := [(5, v_33), (7, .int .i64 c_6), (6, .slice .none 0 0), (5, v_9), (4, .int .i64 j_3), (3, .int .i64 x_2)]) S tys tys_ok 1 [5, 7, 6, 4, 3] (by kernel_rfl) ?_
     clear S; intro a S
     refine wpList_nil ?_
     refine blk_n ?_
     refine then_n ?_
     refine wp_region_lit ?_
     refine wl_pure (l' := [(33, .int .i64 c_6), (5, v_33), (7, .int .i64 c_6), (6, .slice .none 0 0), (5, v_9), (4, .int .i64 j_3), (3, .int .i64 x_2)]) S tys tys_ok 1 (by kernel_rfl) ?_
     clear S; intro a S
     obtain ⟨x_37, ex_37, hl_20⟩ := bindS hl_20
     refine w_go S rfl (op_arith S .i64 (c_6 + 1) rfl (.inl rfl) rfl rfl rfl rfl ex_37 ?_)
     clear S; intro a S
     refine wl_pure (l' := [(7, .int .i64 x_37), (34, .int .i64 x_37), (33, .int .i64 c_6), (5, v_33), (7, .int .i64 c_6), (6, .slice .none 0 0), (5, v_9), (4, .int .i64 j_3), (3, .int .i64 x_2)]) S tys tys_ok 1 (by kernel_rfl) ?_
     clear S; intro a S
     refine wpList_nil ?_
     refine then_n ?_
     exact ⟨x_37, l_32, ⟨v_33, S.sub (by exact ⟨rfl, rfl, rfl, rfl, rfl, trivial⟩), W, (ckI_some ex_37).2.1, O_36.forget, hl_20⟩⟩
    ·intro hc
     rw [if_neg (Bool.eq_false_iff.1 hc)] at hl_20
     refine wp_exit ?_
     refine then_x ?_
     refine then_x ?_
     refine blk_hit ?_
     refine then_n ?_
     obtain rfl := Option.some.inj hl_20
     exact ⟨v_9, S.sub (by exact ⟨rfl, rfl, rfl, rfl, trivial⟩), W, O_10⟩
 clear S W; rintro a w_38 ⟨v_17, S, W, O_18⟩
 refine then_n ?_
 refine wp_seq ?_
 refine wp_seq ?_
 refine wp_region_lit ?_
 refine wl_pure (l' := [(8, .int .i64 0), (3, .int .i64 x_2), (4, .int .i64 j_3), (5, v_17), (6, .slice .none 0 0)]) S tys tys_ok 1 (by kernel_rfl) ?_
 clear S; intro a S
 refine wpList_nil ?_
 refine then_n ?_
 obtain ⟨y_49, ey_49, h⟩ := bindS h
 refine wp_cut_ (fun a_ w_ => ∃ (v_50 : Value), St 168 a_ [(3, .int .i64 x_2), (4, .int .i64 j_3), (5, v_17), (6, v_50)] ∧ Wd w w_ [v_50.ownBlock, v_17.ownBlock] ∧ Ow (.sl (.int .u8)) 28 w_ w.heap.size (Kx K w.heap.size [v_50.ownBlock, v_17.ownBlock]) v_17 y_16 .none ∧ Ow (.sl (.int .u8)) 28 w_ w.heap.size (Kx K w.heap.size [v_50.ownBlock, v_17.ownBlock]) v_50 y_49 .none) ?_ ?_
 ·refine wp_block ?_
  refine wp_loop_n (fun m_ a_ w_ => ∃ (c_39 : Int) (c_41 : List (Sl (Int))) , ∃ (v_42 : Value), St 168 a_ [(8, .int .i64 c_39), (3, .int .i64 x_2), (4, .int .i64 j_3), (5, v_17), (6, v_42)] ∧ Wd w w_ [v_42.ownBlock, v_17.ownBlock] ∧ InR .i64 c_39 ∧ Ow (.sl (.int .u8)) 28 w_ w.heap.size (Kx K w.heap.size [v_42.ownBlock, v_17.ownBlock]) v_17 y_16 .none ∧ Ow (.sl (.int .u8)) 28 w_ w.heap.size (Kx K w.heap.size [v_42.ownBlock, v_17.ownBlock]) v_42 c_41 .none ∧ p5_l2 n m_ c_39 c_41 = some y_49) n ?_ ?_
  ·skip
   replace O_18 := O_18.more
   replace W := W.more
   have O_54 : Ow (.sl (.int .u8)) 28 w_38 w.heap.size (Kx K w.heap.size [.none, v_17.ownBlock]) (.slice .none 0 0) ([] : List (Sl (Int))) (some 0) := Ow.nil
   exact ⟨0, [], ⟨(.slice .none 0 0), S.sub (by exact ⟨rfl, rfl, rfl, rfl, rfl, trivial⟩), W, (by decide), O_18, O_54.forget, ey_49⟩⟩
  ·clear S W; rintro m_52 a w_55 ⟨c_39, c_41, v_42, S, W, G_40, O_18, O_43, hl_53⟩
   cases m_52 with
   | zero => exact absurd hl_53 (by simp [p5_l2])
   | succ m_52 =>
    refine ⟨m_52, rfl, ?_⟩
    rw [p5_l2] at hl_53
    refine wp_seq ?_
    refine wp_seq ?_
    refine wp_region_lit ?_
    refine wl_pure (l' := [(42, .bool (decide (c_39 < 10))), (41, .int .i64 c_39), (8, .int .i64 c_39), (3, .int .i64 x_2), (4, .int .i64 j_3), (5, v_17), (6, v_42)]) S tys tys_ok 2 (by kernel_rfl) ?_
    clear S; intro a S
    refine wpList_nil ?_
    refine then_n ?_
    replace S := S.sub (l' := [(42, .bool (decide (c_39 < 10))), (8, .int .i64 c_39), (3, .int .i64 x_2), (4, .int .i64 j_3), (5, v_17), (6, v_42)]) (by exact ⟨rfl, rfl, rfl, rfl, rfl, rfl, trivial⟩)
    refine wp_cond_split (S.eval (show ev _ _ = some (.bool (decide (c_39 < 10))) from rfl)) ?_ ?_
    ·intro hc
     rw [if_pos hc] at hl_53
     refine wp_skip ?_
     refine then_n ?_
     replace S := S.sub (l' := [(8, .int .i64 c_39), (3, .int .i64 x_2), (4, .int .i64 j_3), (5, v_17), (6, v_42)]) (by exact ⟨rfl, rfl, rfl, rfl, rfl, trivial⟩)
     refine wp_seq ?_
     refine wp_block ?_
     refine wp_region_lit ?_
     refine wl_pure (l' := [(45, v_42), (8, .int .i64 c_39), (3, .int .i64 x_2), (4, .int .i64 j_3), (5, v_17), (6, v_42)]) S tys tys_ok 1 (by kernel_rfl) ?_
     clear S; intro a S
     obtain ⟨m_56, em_56, hl_53⟩ := bindS hl_53
     refine w_go S rfl (op_make (K := K) (e := (.int .u8)) (z0 := 0) S W _ rfl ty28 un28 by28 z5 (fun w K => ⟨rfl, by decide⟩) rfl rfl rfl rfl em_56 ?_)
     clear S; intro a w_58 b_57 hb_59 O_60 S
     replace O_18 := O_18.box hb_59
     replace O_43 := O_43.box hb_59
     replace W := W.box hb_59
     replace O_60 : Ow (.int .u8) 5 w_58 w.heap.size (Kx K w.heap.size [some b_57, v_42.ownBlock, v_17.ownBlock]) (.slice (some ⟨b_57, 0, .none⟩) m_56.1 m_56.2) (List.replicate m_56.1 (0 : Int)) (some m_56.2) := O_60
     have R_61 : RepV (.sl (.int .u8)) w_58 (Kx K w.heap.size [v_42.ownBlock, v_17.ownBlock]) (.slice (some ⟨b_57, 0, .none⟩) m_56.1 m_56.2) (⟨(List.replicate m_56.1 (0 : Int)), some m_56.2⟩ : Sl (Int)) := O_60.pubAt W 0 rfl
     replace O_18 : Ow (.sl (.int .u8)) 28 w_58 w.heap.size (Kx K w.heap.size [v_42.ownBlock, v_17.ownBlock]) v_17 y_16 .none := O_18.lessAt 0
     replace O_43 : Ow (.sl (.int .u8)) 28 w_58 w.heap.size (Kx K w.heap.size [v_42.ownBlock, v_17.ownBlock]) v_42 c_41 .none := O_43.lessAt 0
     replace W : Wd w w_58 [v_42.ownBlock, v_17.ownBlock] := W.lessAt 0
     refine w_go S rfl (op_buildSlice (K := K) (e := (.sl (.int .u8))) (vs := [(.slice (some ⟨b_57, 0, .none⟩) m_56.1 m_56.2)]) (xs := [(⟨(List.replicate m_56.1 (0 : Int)), some m_56.2⟩ : Sl (Int))]) S W rfl ty23 rfl rfl (by kernel_rfl) rfl rfl rfl rfl rfl ⟨R_61, trivial⟩ ?_)
     clear S; intro a w_65 v_62 hb_64 R_63 S
     replace R_61 := R_61.step hb_64
     replace O_18 := O_18.step hb_64
     replace O_43 := O_43.step hb_64
     replace W := W.step hb_64
     obtain ⟨l_66, el_66, hl_53⟩ := bindS hl_53
     refine w_go S rfl (op_append S W (E := 28) 0 rfl ty23 un23 by23 rfl rfl rfl rfl O_43 rfl R_63 el_66 ?_)
     clear S; intro a w_68 v_67 A_69 O_70 S
     replace R_61 : RepV (.sl (.int .u8)) w_68 (Kx K w.heap.size [v_67.ownBlock, v_17.ownBlock]) (.slice (some ⟨b_57, 0, .none⟩) m_56.1 m_56.2) (⟨(List.replicate m_56.1 (0 : Int)), some m_56.2⟩ : Sl (Int)) := R_61.apd A_69 (i := 0) rfl
     replace R_63 : RepV (.sl (.sl (.int .u8))) w_68 (Kx K w.heap.size [v_67.ownBlock, v_17.ownBlock]) v_62 (⟨[(⟨(List.replicate m_56.1 (0 : Int)), some m_56.2⟩ : Sl (Int))], some 1⟩ : Sl (Sl (Int))) := R_63.apd A_69 (i := 0) rfl
     replace O_18 : Ow (.sl (.int .u8)) 28 w_68 w.heap.size (Kx K w.heap.size [v_67.ownBlock, v_17.ownBlock]) v_17 y_16 .none := O_18.apd W A_69 (i := 0) rfl (j := 1) rfl (by decide)
     replace W : Wd w w_68 [v_67.ownBlock, v_17.ownBlock] := W.apd A_69 (i := 0) rfl
     replace O_70 : Ow (.sl (.int .u8)) 28 w_68 w.heap.size (Kx K w.heap.size [v_67.ownBlock, v_17.ownBlock]) v_67 l_66 (capA .none l_66.length) := O_70
     refine wl_pureK (l' := [(6, v_67), (8, .int .i64 c_39), (3, .int .i64 x_2), (4, .int .i64 j_3), (5, v_17), (6, v_42)]) S tys tys_ok 1 [6, 8, 3, 4, 5] (by kernel_rfl) ?_
     clear S; intro a S
     refine wpList_nil ?_
     refine blk_n ?_
     refine then_n ?_
     refine wp_region_lit ?_
     refine wl_pure (l' := [(43, .int .i64 c_39), (6, v_67), (8, .int .i64 c_39), (3, .int .i64 x_2), (4, .int .i64 j_3), (5, v_17), (6, v_42)]) S tys tys_ok 1 (by kernel_rfl) ?_
     clear S; intro a S
     obtain ⟨x_71, ex_71, hl_53⟩ := bindS hl_53
     refine w_go S rfl (op_arith S .i64 (c_39 + 1) rfl (.inl rfl) rfl rfl rfl rfl ex_71 ?_)
     clear S; intro a S
     refine wl_pure (l' := [(8, .int .i64 x_71), (44, .int .i64 x_71), (43, .int .i64 c_39), (6, v_67), (8, .int .i64 c_39), (3, .int .i64 x_2), (4, .int .i64 j_3), (5, v_17), (6, v_42)]) S tys tys_ok 1 (by kernel_rfl) ?_
     clear S; intro a S
     refine wpList_nil ?_
     refine then_n ?_
     exact ⟨x_71, l_66, ⟨v_67, S.sub (by exact ⟨rfl, rfl, rfl, rfl, rfl, trivial⟩), W, (ckI_some ex_71).2.1, O_18, O_70.forget, hl_53⟩⟩
    ·intro hc
     rw [if_neg (Bool.eq_false_iff.1 hc)] at hl_53
     refine wp_exit ?_
     refine then_x ?_
     refine then_x ?_
     refine blk_hit ?_
     refine then_n ?_
     obtain rfl := Option.some.inj hl_53
     exact ⟨v_42, S.sub (by exact ⟨rfl, rfl, rfl, rfl, trivial⟩), W, O_18, O_43⟩
 clear S W; rintro a w_72 ⟨v_50, S, W, O_18, O_51⟩
 refine then_n ?_
 refine wp_seq ?_
 refine wp_region_lit ?_
 refine wl_pure (l' := [(50, .int .i64 x_2), (49, v_50), (3, .int .i64 x_2), (4, .int .i64 j_3), (5, v_17), (6, v_50)]) S tys tys_ok 2 (by kernel_rfl) ?_
 clear S; intro a S
 obtain ⟨x_73, ex_73, h⟩ := bindS h
 refine w_go S rfl (op_arith S .i64 (4 * x_2) rfl (.inr (.inr rfl)) rfl rfl rfl rfl ex_73 ?_)
 clear S; intro a S
 obtain ⟨x_74, ex_74, h⟩ := bindS h
 refine w_go S rfl (op_arith S .i64 (1156 + x_73) rfl (.inl rfl) rfl rfl rfl rfl ex_74 ?_)
 clear S; intro a S
 obtain ⟨m_75, em_75, h⟩ := bindS h
 refine w_go S rfl (op_make (K := K) (e := (.int .u8)) (z0 := 0) S W _ rfl ty28 un28 by28 z5 (fun w K => ⟨rfl, by decide⟩) rfl rfl rfl rfl em_75 ?_)
 clear S; intro a w_77 b_76 hb_78 O_79 S
 replace O_18 := O_18.box hb_78
 replace O_51 := O_51.box hb_78
 replace W := W.box hb_78
 replace O_79 : Ow (.int .u8) 5 w_77 w.heap.size (Kx K w.heap.size [some b_76, v_50.ownBlock, v_17.ownBlock]) (.slice (some ⟨b_76, 0, .none⟩) m_75.1 m_75.2) (List.replicate m_75.1 (0 : Int)) (some m_75.2) := O_79
 have R_80 : RepV (.sl (.int .u8)) w_77 (Kx K w.heap.size [v_50.ownBlock, v_17.ownBlock]) (.slice (some ⟨b_76, 0, .none⟩) m_75.1 m_75.2) (⟨(List.replicate m_75.1 (0 : Int)), some m_75.2⟩ : Sl (Int)) := O_79.pubAt W 0 rfl
 replace O_18 : Ow (.sl (.int .u8)) 28 w_77 w.heap.size (Kx K w.heap.size [v_50.ownBlock, v_17.ownBlock]) v_17 y_16 .none := O_18.lessAt 0
 replace O_51 : Ow (.sl (.int .u8)) 28 w_77 w.heap.size (Kx K w.heap.size [v_50.ownBlock, v_17.ownBlock]) v_50 y_49 .none := O_51.lessAt 0
 replace W : Wd w w_77 [v_50.ownBlock, v_17.ownBlock] := W.lessAt 0
 refine w_go S rfl (op_buildSlice (K := K) (e := (.sl (.int .u8))) (vs := [(.slice (some ⟨b_76, 0, .none⟩) m_75.1 m_75.2)]) (xs := [(⟨(List.replicate m_75.1 (0 : Int)), some m_75.2⟩ : Sl (Int))]) S W rfl ty23 rfl rfl (by kernel_rfl) rfl rfl rfl rfl rfl ⟨R_80, trivial⟩ ?_)
 clear S; intro a w_84 v_81 hb_83 R_82 S
 replace R_80 := R_80.step hb_83
 replace O_18 := O_18.step hb_83
 replace O_51 := O_51.step hb_83
 replace W := W.step hb_83
 obtain ⟨l_85, el_85, h⟩ := bindS h
 refine w_go S rfl (op_append S W (E := 28) 0 rfl ty23 un23 by23 rfl rfl rfl rfl O_51 rfl R_82 el_85 ?_)
 clear S; intro a w_87 v_86 A_88 O_89 S
 replace R_80 : RepV (.sl (.int .u8)) w_87 (Kx K w.heap.size [v_86.ownBlock, v_17.ownBlock]) (.slice (some ⟨b_76, 0, .none⟩) m_75.1 m_75.2) (⟨(List.replicate m_75.1 (0 : Int)), some m_75.2⟩ : Sl (Int)) := R_80.apd A_88 (i := 0) rfl
 replace R_82 : RepV (.sl (.sl (.int .u8))) w_87 (Kx K w.heap.size [v_86.ownBlock, v_17.ownBlock]) v_81 (⟨[(⟨(List.replicate m_75.1 (0 : Int)), some m_75.2⟩ : Sl (Int))], some 1⟩ : Sl (Sl (Int))) := R_82.apd A_88 (i := 0) rfl
 replace O_18 : Ow (.sl (.int .u8)) 28 w_87 w.heap.size (Kx K w.heap.size [v_86.ownBlock, v_17.ownBlock]) v_17 y_16 .none := O_18.apd W A_88 (i := 0) rfl (j := 1) rfl (by decide)
 replace W : Wd w w_87 [v_86.ownBlock, v_17.ownBlock] := W.apd A_88 (i := 0) rfl
 replace O_89 : Ow (.sl (.int .u8)) 28 w_87 w.heap.size (Kx K w.heap.size [v_86.ownBlock, v_17.ownBlock]) v_86 l_85 (capA .none l_85.length) := O_89
 refine wl_pureK (l' := [(6, v_86), (3, .int .i64 x_2), (4, .int .i64 j_3), (5, v_17), (6, v_50)]) S tys tys_ok 1 [6, 3, 4, 5] (by kernel_rfl) ?_
 clear S; intro a S
 refine wpList_nil ?_
 refine then_n ?_
 refine wp_seq ?_
 refine wp_region_lit ?_
 refine wl_pure (l' := [(57, v_17), (6, v_86), (3, .int .i64 x_2), (4, .int .i64 j_3), (5, v_17), (6, v_50)]) S tys tys_ok 1 (by kernel_rfl) ?_
 clear S; intro a S
 have R_90 : RepV (.sl (.sl (.int .u8))) w_87 (Kx K w.heap.size [v_86.ownBlock]) v_17 (⟨y_16, .none⟩ : Sl (Sl (Int))) := O_18.pubAt W 1 rfl
 replace O_89 : Ow (.sl (.int .u8)) 28 w_87 w.heap.size (Kx K w.heap.size [v_86.ownBlock]) v_86 l_85 (capA .none l_85.length) := O_89.lessAt 1
 replace W : Wd w w_87 [v_86.ownBlock] := W.lessAt 1
 refine w_go S rfl (op_build (K := (Kx K w.heap.size [v_86.ownBlock])) (f := gf0) (z0 := (0, ⟨[], some 0⟩)) (x := (0, (⟨y_16, .none⟩ : Sl (Sl (Int))))) (vs := [v_17]) S _ rfl ty25 z25 (fun w K => ⟨[.int .u16 0], [.slice .none 0 0], rfl, ⟨rfl, by decide⟩, ⟨.none, 0, 0, rfl, rfl, Nat.le_refl _, by decide, fun k h => Option.some.inj h, .inl rfl⟩⟩) rfl rfl rfl [(1, v_17)] rfl ⟨_, R_90, rfl, rfl, rfl⟩ ?_)
 clear S; intro a v_91 R_92 S
 obtain ⟨t_93, et_93, h⟩ := bindS h
 refine w_go S rfl (op_call (vs := [v_91]) S rfl cb11 rfl rfl rfl (c11 (Kx K w.heap.size [v_86.ownBlock]) n w_87 (0, (⟨y_16, .none⟩ : Sl (Sl (Int)))) _ R_92 et_93) ?_)
 rintro _ w_99 ⟨v_94, v_95, rfl, R_96, R_97, hb_98⟩; refine ⟨_, rfl, ?_⟩
 replace R_96 := RepV.back R_96 W
 replace R_97 := RepV.back R_97 W
 clear S; intro a S
 replace R_90 := R_90.step hb_98
 replace R_92 := R_92.step hb_98
 replace O_89 := O_89.step hb_98
 replace W := W.step hb_98
 obtain ⟨rfl, GR_97⟩ := RepV.int R_97
 refine wl_pureK (l' := [(10, .int .i64 t_93.2), (9, v_94), (6, v_86), (3, .int .i64 x_2), (4, .int .i64 j_3), (5, v_17), (6, v_50)]) S tys tys_ok 5 [10, 9, 6, 3, 4, 5] (by kernel_rfl) ?_
 clear S; intro a S
 refine wpList_nil ?_
 refine then_n ?_
 refine wp_seq ?_
 refine wp_region_lit ?_
 refine wl_pure (l' := [(63, v_86), (10, .int .i64 t_93.2), (9, v_94), (6, v_86), (3, .int .i64 x_2), (4, .int .i64 j_3), (5, v_17), (6, v_50)]) S tys tys_ok 1 (by kernel_rfl) ?_
 clear S; intro a S
 have R_100 : RepV (.sl (.sl (.int .u8))) w_99 (Kx K w.heap.size []) v_86 (⟨l_85, capA .none l_85.length⟩ : Sl (Sl (Int))) := O_89.pubAt W 0 rfl
 replace R_90 : RepV (.sl (.sl (.int .u8))) w_99 (Kx K w.heap.size []) v_17 (⟨y_16, .none⟩ : Sl (Sl (Int))) := R_90.lessAt 0
 replace R_96 : RepV (.sl (.int .u8)) w_99 (Kx K w.heap.size []) v_94 t_93.1 := R_96.lessAt 0
 replace W : Wd w w_99 [] := W.lessAt 0
 refine w_go S rfl (op_build (K := (Kx K w.heap.size [])) (f := gf0) (z0 := (0, ⟨[], some 0⟩)) (x := (0, (⟨l_85, capA .none l_85.length⟩ : Sl (Sl (Int))))) (vs := [v_86]) S _ rfl ty25 z25 (fun w K => ⟨[.int .u16 0], [.slice .none 0 0], rfl, ⟨rfl, by decide⟩, ⟨.none, 0, 0, rfl, rfl, Nat.le_refl _, by decide, fun k h => Option.some.inj h, .inl rfl⟩⟩) rfl rfl rfl [(1, v_86)] rfl ⟨_, R_100, rfl, rfl, rfl⟩ ?_)
 clear S; intro a v_101 R_102 S
 obtain ⟨t_103, et_103, h⟩ := bindS h
 refine w_go S rfl (op_call (vs := [v_101]) S rfl cb11 rfl rfl rfl (c11 (Kx K w.heap.size []) n w_99 (0, (⟨l_85, capA .none l_85.length⟩ : Sl (Sl (Int)))) _ R_102 et_103) ?_)
 rintro _ w_109 ⟨v_104, v_105, rfl, R_106, R_107, hb_108⟩; refine ⟨_, rfl, ?_⟩
 replace R_106 := RepV.back R_106 W
 replace R_107 := RepV.back R_107 W
 clear S; intro a S
 replace R_90 := R_90.step hb_108
 replace R_100 := R_100.step hb_108
 replace R_96 := R_96.step hb_108
 replace R_102 := R_102.step hb_108
 replace W := W.step hb_108
 obtain ⟨rfl, GR_107⟩ := RepV.int R_107
 refine wl_pureK (l' := [(12, .int .i64 t_103.2), (11, v_104), (10, .int .i64 t_93.2), (9, v_94), (6, v_86), (3, .int .i64 x_2), (4, .int .i64 j_3), (5, v_17), (6, v_50)]) S tys tys_ok 5 [12, 11, 10, 9, 6, 3, 4, 5] (by kernel_rfl) ?_
 clear S; intro a S
 refine wpList_nil ?_
 refine then_n ?_
 refine wp_seq ?_
 refine wp_region_lit ?_
 refine wl_pure (l' := [(69, .int .i64 x_2), (12, .int .i64 t_103.2), (11, v_104), (10, .int .i64 t_93.2), (9, v_94), (6, v_86), (3, .int .i64 x_2), (4, .int .i64 j_3), (5, v_17), (6, v_50)]) S tys tys_ok 1 (by kernel_rfl) ?_
 clear S; intro a S
 obtain ⟨x_110, ex_110, h⟩ := bindS h
 refine w_go S rfl (op_arith S .i64 (1514 + x_2) rfl (.inl rfl) rfl rfl rfl rfl ex_110 ?_)
 clear S; intro a S
 obtain ⟨m_111, em_111, h⟩ := bindS h
 refine w_go S rfl (op_make (K := K) (e := (.int .u8)) (z0 := 0) S W _ rfl ty28 un28 by28 z5 (fun w K => ⟨rfl, by decide⟩) rfl rfl rfl rfl em_111 ?_)
 clear S; intro a w_113 b_112 hb_114 O_115 S
 replace R_90 := R_90.box hb_114
 replace R_100 := R_100.box hb_114
 replace R_96 := R_96.box hb_114
 replace R_106 := R_106.box hb_114
 replace W := W.box hb_114
 replace O_115 : Ow (.int .u8) 5 w_113 w.heap.size (Kx K w.heap.size [some b_112]) (.slice (some ⟨b_112, 0, .none⟩) m_111.1 m_111.2) (List.replicate m_111.1 (0 : Int)) (some m_111.2) := O_115
 have R_116 : RepV (.sl (.int .u8)) w_113 (Kx K w.heap.size []) (.slice (some ⟨b_112, 0, .none⟩) m_111.1 m_111.2) (⟨(List.replicate m_111.1 (0 : Int)), some m_111.2⟩ : Sl (Int)) := O_115.pubAt W 0 rfl
 replace R_90 : RepV (.sl (.sl (.int .u8))) w_113 (Kx K w.heap.size []) v_17 (⟨y_16, .none⟩ : Sl (Sl (Int))) := R_90.lessAt 0
 replace R_100 : RepV (.sl (.sl (.int .u8))) w_113 (Kx K w.heap.size []) v_86 (⟨l_85, capA .none l_85.length⟩ : Sl (Sl (Int))) := R_100.lessAt 0
 replace R_96 : RepV (.sl (.int .u8)) w_113 (Kx K w.heap.size []) v_94 t_93.1 := R_96.lessAt 0
 replace R_106 : RepV (.sl (.int .u8)) w_113 (Kx K w.heap.size []) v_104 t_103.1 := R_106.lessAt 0
 replace W : Wd w w_113 [] := W.lessAt 0
 refine w_go S rfl (op_buildSlice (K := K) (e := (.sl (.int .u8))) (vs := [(.slice (some ⟨b_112, 0, .none⟩) m_111.1 m_111.2)]) (xs := [(⟨(List.replicate m_111.1 (0 : Int)), some m_111.2⟩ : Sl (Int))]) S W rfl ty23 rfl rfl (by kernel_rfl) rfl rfl rfl rfl rfl ⟨R_116, trivial⟩ ?_)
 clear S; intro a w_120 v_117 hb_119 R_118 S
 replace R_90 := R_90.step hb_119
 replace R_100 := R_100.step hb_119
 replace R_96 := R_96.step hb_119
 replace R_106 := R_106.step hb_119
 replace R_116 := R_116.step hb_119
 replace W := W.step hb_119
 refine w_go S rfl (op_build (K := (Kx K w.heap.size [])) (f := gf0) (z0 := (0, ⟨[], some 0⟩)) (x := (0, (⟨[(⟨(List.replicate m_111.1 (0 : Int)), some m_111.2⟩ : Sl (Int))], some 1⟩ : Sl (Sl (Int))))) (vs := [v_117]) S _ rfl ty25 z25 (fun w K => ⟨[.int .u16 0], [.slice .none 0 0], rfl, ⟨rfl, by decide⟩, ⟨.none, 0, 0, rfl, rfl, Nat.le_refl _, by decide, fun k h => Option.some.inj h, .inl rfl⟩⟩) rfl rfl rfl [(1, v_117)] rfl ⟨_, R_118, rfl, rfl, rfl⟩ ?_)
 clear S; intro a v_121 R_122 S
 obtain ⟨t_123, et_123, h⟩ := bindS h
 refine w_go S rfl (op_call (vs := [v_121]) S rfl cb11 rfl rfl rfl (c11 (Kx K w.heap.size []) n w_120 (0, (⟨[(⟨(List.replicate m_111.1 (0 : Int)), some m_111.2⟩ : Sl (Int))], some 1⟩ : Sl (Sl (Int)))) _ R_122 et_123) ?_)
 rintro _ w_129 ⟨v_124, v_125, rfl, R_126, R_127, hb_128⟩; refine ⟨_, rfl, ?_⟩
 replace R_126 := RepV.back R_126 W
 replace R_127 := RepV.back R_127 W
 clear S; intro a S
 replace R_90 := R_90.step hb_128
 replace R_100 := R_100.step hb_128
 replace R_96 := R_96.step hb_128
 replace R_106 := R_106.step hb_128
 replace R_116 := R_116.step hb_128
 replace R_118 := R_118.step hb_128
 replace R_122 := R_122.step hb_128
 replace W := W.step hb_128
 obtain ⟨rfl, GR_127⟩ := RepV.int R_127
 refine wl_pureK (l' := [(14, .int .i64 t_123.2), (12, .int .i64 t_103.2), (11, v_104), (10, .int .i64 t_93.2), (9, v_94), (6, v_86), (3, .int .i64 x_2), (4, .int .i64 j_3), (5, v_17), (6, v_50)]) S tys tys_ok 5 [14, 12, 11, 10, 9, 6, 3, 4, 5] (by kernel_rfl) ?_
 clear S; intro a S
 refine wpList_nil ?_
 refine then_n ?_
 refine wp_seq ?_
 refine wp_seq ?_
 refine wp_region_lit ?_
 refine wl_pureK (l' := [(80, .bool (t_93.2 != j_3)), (14, .int .i64 t_123.2), (12, .int .i64 t_103.2), (11, v_104), (9, v_94), (6, v_86), (3, .int .i64 x_2), (4, .int .i64 j_3), (5, v_17), (6, v_50)]) S tys tys_ok 4 [80, 14, 12, 11, 9, 6, 3, 4, 5] (by kernel_rfl) ?_
 clear S; intro a S
 obtain ⟨q_130, eq_130, h⟩ := bindS h
 refine seg 4 (fun a_ w_ => w_129 = w_ ∧ St 168 a_ [(84, .bool q_130), (14, .int .i64 t_123.2), (11, v_104), (9, v_94), (6, v_86), (3, .int .i64 x_2), (5, v_17)]) ?_ ?_
 ·by_cases hc : (t_93.2 != j_3) = false
  ·rw [if_pos hc] at eq_130; rw [hc] at S
   refine wl_pureK (l' := [(84, .bool (t_103.2 != j_3)), (14, .int .i64 t_123.2), (11, v_104), (9, v_94), (6, v_86), (3, .int .i64 x_2), (5, v_17), (6, v_50)]) S tys tys_ok 4 [84, 14, 11, 9, 6, 3, 5] (by kernel_rfl) ?_
   clear S; intro a S
   obtain rfl := Option.some.inj eq_130
   exact ⟨rfl, S.sub (by exact ⟨rfl, rfl, rfl, rfl, rfl, rfl, rfl, trivial⟩)⟩
  ·rw [if_neg hc] at eq_130; rw [show (t_93.2 != j_3) = true from (by simpa using hc)] at S
   refine wl_pureK (l' := [(84, .bool true), (14, .int .i64 t_123.2), (11, v_104), (9, v_94), (6, v_86), (3, .int .i64 x_2), (5, v_17), (6, v_50)]) S tys tys_ok 4 [84, 14, 11, 9, 6, 3, 5] (by kernel_rfl) ?_
   clear S; intro a S
   obtain rfl := Option.some.inj eq_130
   exact ⟨rfl, S.sub (by exact ⟨rfl, rfl, rfl, rfl, rfl, rfl, rfl, trivial⟩)⟩
 clear S eq_130; rintro a _ ⟨rfl, S⟩
 refine wl_pure (l' := [(85, .bool q_130), (84, .bool q_130), (14, .int .i64 t_123.2), (11, v_104), (9, v_94), (6, v_86), (3, .int .i64 x_2), (5, v_17)]) S tys tys_ok 1 (by kernel_rfl) ?_
 clear S; intro a S
 obtain ⟨q_131, eq_131, h⟩ := bindS h
 refine seg 6 (fun a_ w_ => w_129 = w_ ∧ St 168 a_ [(91, .bool q_131), (14, .int .i64 t_123.2), (11, v_104), (9, v_94), (6, v_86), (3, .int .i64 x_2), (5, v_17)]) ?_ ?_
 ·by_cases hc : q_130 = false
  ·rw [if_pos hc] at eq_131; rw [hc] at S
   refine wl_pureK (l' := [(91, .bool (!((t_123.2 == 0) == (decide (x_2 ≤ 0))))), (14, .int .i64 t_123.2), (11, v_104), (9, v_94), (6, v_86), (3, .int .i64 x_2), (5, v_17)]) S tys tys_ok 6 [91, 14, 11, 9, 6, 3, 5] (by kernel_rfl) ?_
   clear S; intro a S
   obtain rfl := Option.some.inj eq_131
   exact ⟨rfl, S.sub (by exact ⟨rfl, rfl, rfl, rfl, rfl, rfl, rfl, trivial⟩)⟩
  ·rw [if_neg hc] at eq_131; rw [show q_130 = true from (by simpa using hc)] at S
   refine wl_pureK (l' := [(91, .bool true), (14, .int .i64 t_123.2), (11, v_104), (9, v_94), (6, v_86), (3, .int .i64 x_2), (5, v_17)]) S tys tys_ok 6 [91, 14, 11, 9, 6, 3, 5] (by kernel_rfl) ?_
   clear S; intro a S
   obtain rfl := Option.some.inj eq_131
   exact ⟨rfl, S.sub (by exact ⟨rfl, rfl, rfl, rfl, rfl, rfl, rfl, trivial⟩)⟩
 clear S eq_131; rintro a _ ⟨rfl, S⟩
 refine wl_pure (l' := [(92, .bool q_131), (91, .bool q_131), (14, .int .i64 t_123.2), (11, v_104), (9, v_94), (6, v_86), (3, .int .i64 x_2), (5, v_17)]) S tys tys_ok 1 (by kernel_rfl) ?_
 clear S; intro a S
 obtain ⟨q_132, eq_132, h⟩ := bindS h
 refine seg 6 (fun a_ w_ => w_129 = w_ ∧ St 168 a_ [(98, .bool q_132), (11, v_104), (9, v_94), (6, v_86), (3, .int .i64 x_2), (5, v_17)]) ?_ ?_
 ·by_cases hc : q_131 = false
  ·rw [if_pos hc] at eq_132; rw [hc] at S
   refine wl_pureK (l' := [(98, .bool (!((t_123.2 == 1) == (decide (x_2 > 0))))), (11, v_104), (9, v_94), (6, v_86), (3, .int .i64 x_2), (5, v_17)]) S tys tys_ok 6 [98, 11, 9, 6, 3, 5] (by kernel_rfl) ?_
   clear S; intro a S
   obtain rfl := Option.some.inj eq_132
   exact ⟨rfl, S.sub (by exact ⟨rfl, rfl, rfl, rfl, rfl, rfl, trivial⟩)⟩
  ·rw [if_neg hc] at eq_132; rw [show q_131 = true from (by simpa using hc)] at S
   refine wl_pureK (l' := [(98, .bool true), (11, v_104), (9, v_94), (6, v_86), (3, .int .i64 x_2), (5, v_17)]) S tys tys_ok 6 [98, 11, 9, 6, 3, 5] (by kernel_rfl) ?_
   clear S; intro a S
   obtain rfl := Option.some.inj eq_132
   exact ⟨rfl, S.sub (by exact ⟨rfl, rfl, rfl, rfl, rfl, rfl, trivial⟩)⟩
 clear S eq_132; rintro a _ ⟨rfl, S⟩
 refine wpList_nil ?_
 refine then_n ?_
 refine wp_cond_split (S.eval (show ev _ _ = some (.bool q_132) from rfl)) ?_ ?_
 ·intro hc
  rw [if_pos hc] at h
  refine wp_seq ?_
  refine wp_region_lit ?_
  refine wl_pureK (l' := [(2, .bool false)]) S tys tys_ok 1 [2] (by kernel_rfl) ?_
  clear S; intro a S
  refine wpList_nil ?_
  refine then_n ?_
  refine wp_ret ?_
  refine then_r ?_
  obtain rfl := Option.some.inj h
  exact b_ret1 S rfl rfl ⟨_, rfl, RepV.mkBool, W.below⟩
 ·intro hc
  rw [if_neg (Bool.eq_false_iff.1 hc)] at h
  refine wp_skip ?_
  refine then_n ?_
  replace S := S.sub (l' := [(11, v_104), (9, v_94), (6, v_86), (3, .int .i64 x_2), (5, v_17)]) (by exact ⟨rfl, rfl, rfl, rfl, rfl, trivial⟩)
  refine wp_seq ?_
  refine wp_seq ?_
  refine wp_region_lit ?_
  refine wl_pure (l' := [(100, .bool (decide (x_2 ≤ 0))), (99, .int .i64 x_2), (11, v_104), (9, v_94), (6, v_86), (3, .int .i64 x_2), (5, v_17)]) S tys tys_ok 2 (by kernel_rfl) ?_
  clear S; intro a S
  refine wpList_nil ?_
  refine then_n ?_
  replace S := S.sub (l' := [(100, .bool (decide (x_2 ≤ 0))), (11, v_104), (9, v_94), (6, v_86), (3, .int .i64 x_2), (5, v_17)]) (by exact ⟨rfl, rfl, rfl, rfl, rfl, rfl, trivial⟩)
  refine wp_cond_split (S.eval (show ev _ _ = some (.bool (decide (x_2 ≤ 0))) from rfl)) ?_ ?_
  ·intro hc
   rw [if_pos hc] at h
   refine wp_seq ?_
   refine wp_region_lit ?_
   refine wl_pure (l' := [(102, v_94), (100, .bool (decide (x_2 ≤ 0))), (11, v_104), (9, v_94), (6, v_86), (3, .int .i64 x_2), (5, v_17)]) S tys tys_ok 1 (by kernel_rfl) ?_
   clear S; intro a S
   obtain ⟨t_133, et_133, h⟩ := bindS h
   refine w_go S rfl (op_call (vs := [v_94]) S rfl cb12 rfl rfl rfl (c12 (Kx K w.heap.size []) n w_129 t_93.1 _ R_96 et_133) ?_)
   rintro _ w_139 ⟨v_134, v_135, rfl, R_136, R_137, hb_138⟩; refine ⟨_, rfl, ?_⟩
   replace R_136 := RepV.back R_136 W
   replace R_137 := RepV.back R_137 W
   clear S; intro a S
   replace R_106 := R_106.step hb_138
   replace R_96 := R_96.step hb_138
   replace R_100 := R_100.step hb_138
   replace R_90 := R_90.step hb_138
   replace W := W.step hb_138
   obtain ⟨rfl, GR_137⟩ := RepV.int R_137
   refine wl_pureK (l' := [(105, .int .i64 t_133.2), (104, v_134), (11, v_104), (6, v_86), (3, .int .i64 x_2), (5, v_17)]) S tys tys_ok 3 [105, 104, 11, 6, 3, 5] (by kernel_rfl) ?_
   clear S; intro a S
   refine w_go S rfl (op_alloc (K := K) (n := w.heap.size) (L := []) (t := gt0) (y := (0, ⟨[], some 0⟩)) S rfl rfl rfl _ z25 (fun w K => ⟨[.int .u16 0], [.slice .none 0 0], rfl, ⟨rfl, by decide⟩, ⟨.none, 0, 0, rfl, rfl, Nat.le_refl _, by decide, fun k h => Option.some.inj h, .inl rfl⟩⟩) ?_)
   clear S; intro a w_142 b_140 hb_143 B_141 S
   replace R_106 := R_106.box hb_143
   replace R_100 := R_100.box hb_143
   replace R_90 := R_90.box hb_143
   replace R_136 := R_136.box hb_143
   replace W := W.box hb_143
   refine w_go S rfl (op_store (t' := gt0) S rfl rfl ty25 rfl rfl rfl B_141 (by simp) Ln.whole R_136 ?_)
   intro w_144 hw_145 B_
   replace R_106 := R_106.wrote hw_145 (by simp)
   replace R_100 := R_100.wrote hw_145 (by simp)
   replace R_90 := R_90.wrote hw_145 (by simp)
   replace R_136 := R_136.wrote hw_145 (by simp)
   replace W := W.wrote hw_145 (by simp)
   replace B_141 : Bx gt0 25 w_144 (Kx K w.heap.size [some b_140]) b_140 t_133.1 := B_; clear B_
   refine wl_pure (l' := [(16, .int .i64 t_133.2), (15, pB b_140), (105, .int .i64 t_133.2), (104, v_134), (11, v_104), (6, v_86), (3, .int .i64 x_2), (5, v_17)]) S tys tys_ok 1 (by kernel_rfl) ?_
   clear S; intro a S
   refine wpList_nil ?_
   refine then_n ?_
   replace S := S.sub (l' := [(16, .int .i64 t_133.2), (15, pB b_140), (11, v_104), (6, v_86), (3, .int .i64 x_2), (5, v_17)]) (by exact ⟨rfl, rfl, rfl, rfl, rfl, rfl, trivial⟩)
   refine wp_seq ?_
   refine wp_region_lit ?_
   refine wl_pure (l' := [(107, v_104), (16, .int .i64 t_133.2), (15, pB b_140), (11, v_104), (6, v_86), (3, .int .i64 x_2), (5, v_17)]) S tys tys_ok 1 (by kernel_rfl) ?_
   clear S; intro a S
   obtain ⟨t_146, et_146, h⟩ := bindS h
   refine w_go S rfl (op_call (vs := [v_104]) S rfl cb12 rfl rfl rfl (c12 (Kx K w.heap.size [some b_140]) n w_144 t_103.1 _ R_106 et_146) ?_)
   rintro _ w_152 ⟨v_147, v_148, rfl, R_149, R_150, hb_151⟩; refine ⟨_, rfl, ?_⟩
   replace R_149 := RepV.back R_149 W
   replace R_150 := RepV.back R_150 W
   clear S; intro a S
   replace R_106 := R_106.step hb_151
   replace R_100 := R_100.step hb_151
   replace R_90 := R_90.step hb_151
   replace B_141 := B_141.step hb_151
   replace W := W.step hb_151
   obtain ⟨rfl, GR_150⟩ := RepV.int R_150
   refine wl_pureK (l' := [(110, .int .i64 t_146.2), (109, v_147), (16, .int .i64 t_133.2), (15, pB b_140), (11, v_104), (6, v_86), (3, .int .i64 x_2), (5, v_17)]) S tys tys_ok 3 [110, 109, 16, 15, 11, 6, 3, 5] (by kernel_rfl) ?_
   clear S; intro a S
   refine w_go S rfl (op_alloc (K := K) (n := w.heap.size) (L := [some b_140]) (t := gt0) (y := (0, ⟨[], some 0⟩)) S rfl rfl rfl _ z25 (fun w K => ⟨[.int .u16 0], [.slice .none 0 0], rfl, ⟨rfl, by decide⟩, ⟨.none, 0, 0, rfl, rfl, Nat.le_refl _, by decide, fun k h => Option.some.inj h, .inl rfl⟩⟩) ?_)
   clear S; intro a w_155 b_153 hb_156 B_154 S
   replace R_106 := R_106.box hb_156
   replace R_100 := R_100.box hb_156
   replace R_90 := R_90.box hb_156
   replace R_149 := R_149.box hb_156
   replace B_141 := B_141.box hb_156
   replace W := W.box hb_156
   refine w_go S rfl (op_store (t' := gt0) S rfl rfl ty25 rfl rfl rfl B_154 (by simp) Ln.whole R_149 ?_)
   intro w_157 hw_158 B_
   replace R_106 := R_106.wrote hw_158 (by simp)
   replace R_100 := R_100.wrote hw_158 (by simp)
   replace R_90 := R_90.wrote hw_158 (by simp)
   replace R_149 := R_149.wrote hw_158 (by simp)
   replace B_141 := B_141.wrote hw_158 (by simp) (W.bne (p := 1) (q := 0) (by decide) rfl rfl)
   replace W := W.wrote hw_158 (by simp)
   replace B_154 : Bx gt0 25 w_157 (Kx K w.heap.size [some b_153, some b_140]) b_153 t_146.1 := B_; clear B_
   refine wl_pure (l' := [(18, .int .i64 t_146.2), (17, pB b_153), (110, .int .i64 t_146.2), (109, v_147), (16, .int .i64 t_133.2), (15, pB b_140), (11, v_104), (6, v_86), (3, .int .i64 x_2), (5, v_17)]) S tys tys_ok 1 (by kernel_rfl) ?_
   clear S; intro a S
   refine wpList_nil ?_
   refine then_n ?_
   replace S := S.sub (l' := [(18, .int .i64 t_146.2), (17, pB b_153), (16, .int .i64 t_133.2), (15, pB b_140), (11, v_104), (6, v_86), (3, .int .i64 x_2), (5, v_17)]) (by exact ⟨rfl, rfl, rfl, rfl, rfl, rfl, rfl, rfl, trivial⟩)
   refine wp_seq ?_
   refine wp_region_lit ?_
   refine wl_pureK (l' := [(113, .bool (t_133.2 == 0)), (18, .int .i64 t_146.2), (17, pB b_153), (15, pB b_140), (11, v_104), (6, v_86), (3, .int .i64 x_2), (5, v_17)]) S tys tys_ok 3 [113, 18, 17, 15, 11, 6, 3, 5] (by kernel_rfl) ?_
   clear S; intro a S
   obtain ⟨q_159, eq_159, h⟩ := bindS h
   refine seg 3 (fun a_ w_ => w_157 = w_ ∧ St 168 a_ [(116, .bool q_159), (17, pB b_153), (15, pB b_140), (11, v_104), (6, v_86), (3, .int .i64 x_2), (5, v_17)]) ?_ ?_
   ·by_cases hc : (t_133.2 == 0) = true
    ·rw [if_pos hc] at eq_159; rw [hc] at S
     refine wl_pureK (l' := [(116, .bool (t_146.2 == 0)), (17, pB b_153), (15, pB b_140), (11, v_104), (6, v_86), (3, .int .i64 x_2), (5, v_17)]) S tys tys_ok 3 [116, 17, 15, 11, 6, 3, 5] (by kernel_rfl) ?_
     clear S; intro a S
     obtain rfl := Option.some.inj eq_159
     exact ⟨rfl, S.sub (by exact ⟨rfl, rfl, rfl, rfl, rfl, rfl, rfl, trivial⟩)⟩
    ·rw [if_neg hc] at eq_159; rw [show (t_133.2 == 0) = false from Bool.eq_false_iff.2 hc] at S
     refine wl_pureK (l' := [(116, .bool false), (17, pB b_153), (15, pB b_140), (11, v_104), (6, v_86), (3, .int .i64 x_2), (5, v_17)]) S tys tys_ok 3 [116, 17, 15, 11, 6, 3, 5] (by kernel_rfl) ?_
     clear S; intro a S
     obtain rfl := Option.some.inj eq_159
     exact ⟨rfl, S.sub (by exact ⟨rfl, rfl, rfl, rfl, rfl, rfl, rfl, trivial⟩)⟩
   clear S eq_159; rintro a _ ⟨rfl, S⟩
   refine wl_pure (l' := [(117, .bool q_159), (116, .bool q_159), (17, pB b_153), (15, pB b_140), (11, v_104), (6, v_86), (3, .int .i64 x_2), (5, v_17)]) S tys tys_ok 1 (by kernel_rfl) ?_
   clear S; intro a S
   obtain ⟨q_160, eq_160, h⟩ := bindS h
   refine seg 5 (fun a_ w_ => St 168 a_ [(122, .bool q_160), (17, pB b_153), (11, v_104), (6, v_86), (3, .int .i64 x_2)] ∧ Wd w w_ [some b_153, some b_140] ∧ RepV (.sl (.int .u8)) w_ (Kx K w.heap.size [some b_153, some b_140]) v_104 t_103.1 ∧ RepV (.sl (.sl (.int .u8))) w_ (Kx K w.heap.size [some b_153, some b_140]) v_86 (⟨l_85, capA .none l_85.length⟩ : Sl (Sl (Int))) ∧ Bx gt0 25 w_ (Kx K w.heap.size [some b_153, some b_140]) b_140 t_133.1 ∧ Bx gt0 25 w_ (Kx K w.heap.size [some b_153, some b_140]) b_153 t_146.1) ?_ ?_
   ·by_cases hc : q_159 = true
    ·rw [if_pos hc] at eq_160; rw [hc] at S
     refine wl_pure (l' := [(118, .pointer (some ((⟨b_140, 0, .none⟩ : Addr).add (coff gf0 1)))), (117, .bool true), (116, .bool true), (17, pB b_153), (15, pB b_140), (11, v_104), (6, v_86), (3, .int .i64 x_2), (5, v_17)]) S tys tys_ok 1 (by kernel_rfl) ?_
     clear S; intro a S
     refine w_go S rfl (op_load (t := (.sl (.sl (.int .u8)))) (x := t_133.1.2) S rfl ty23 rfl rfl rfl (RepAt.add 1 (RepAt.st (t := gf0) B_141.at_)) ?_)
     clear S; intro a v_161 R_162 S
     refine wl_pureK (l' := [(120, v_17), (119, v_161), (117, .bool true), (17, pB b_153), (11, v_104), (6, v_86), (3, .int .i64 x_2)]) S tys tys_ok 1 [120, 119, 117, 17, 11, 6, 3] (by kernel_rfl) ?_
     clear S; intro a S
     obtain ⟨t_163, et_163, eq_160⟩ := bindS eq_160
     refine w_go S rfl (op_call (vs := [v_161, v_17]) S rfl cb13 rfl rfl rfl (c13 (Kx K w.heap.size [some b_153, some b_140]) n w_157 t_133.1.2 _ R_162 (⟨y_16, .none⟩ : Sl (Sl (Int))) _ R_90 et_163) ?_)
     rintro _ w_167 ⟨v_164, rfl, R_165, hb_166⟩; refine ⟨_, rfl, ?_⟩
     replace R_165 := RepV.back R_165 W
     clear S; intro a S
     replace R_106 := R_106.step hb_166
     replace R_100 := R_100.step hb_166
     replace R_162 := R_162.step hb_166
     replace R_90 := R_90.step hb_166
     replace B_141 := B_141.step hb_166
     replace B_154 := B_154.step hb_166
     replace W := W.step hb_166
     obtain rfl := RepV.bool R_165
     refine wl_pureK (l' := [(122, .bool t_163), (17, pB b_153), (11, v_104), (6, v_86), (3, .int .i64 x_2)]) S tys tys_ok 1 [122, 17, 11, 6, 3] (by kernel_rfl) ?_
     clear S; intro a S
     obtain rfl := Option.some.inj eq_160
     exact ⟨S.sub (by exact ⟨rfl, rfl, rfl, rfl, rfl, trivial⟩), W, R_106, R_100, B_141, B_154⟩
    ·rw [if_neg hc] at eq_160; rw [show q_159 = false from Bool.eq_false_iff.2 hc] at S
     refine wl_pureK (l' := [(122, .bool false), (17, pB b_153), (11, v_104), (6, v_86), (3, .int .i64 x_2)]) S tys tys_ok 5 [122, 17, 11, 6, 3] (by kernel_rfl) ?_
     clear S; intro a S
     obtain rfl := Option.some.inj eq_160
     exact ⟨S.sub (by exact ⟨rfl, rfl, rfl, rfl, rfl, trivial⟩), W, R_106, R_100, B_141, B_154⟩
   clear S W eq_160; rintro a w_168 ⟨S, W, R_106, R_100, B_141, B_154⟩
   refine wl_pure (l' := [(123, .bool q_160), (122, .bool q_160), (17, pB b_153), (11, v_104), (6, v_86), (3, .int .i64 x_2)]) S tys tys_ok 1 (by kernel_rfl) ?_
   clear S; intro a S
   obtain ⟨q_169, eq_169, h⟩ := bindS h
   refine seg 5 (fun a_ w_ => St 168 a_ [(128, .bool q_169), (11, v_104), (3, .int .i64 x_2)] ∧ Wd w w_ [some b_153, some b_140] ∧ RepV (.sl (.int .u8)) w_ (Kx K w.heap.size [some b_153, some b_140]) v_104 t_103.1 ∧ Bx gt0 25 w_ (Kx K w.heap.size [some b_153, some b_140]) b_140 t_133.1 ∧ Bx gt0 25 w_ (Kx K w.heap.size [some b_153, some b_140]) b_153 t_146.1) ?_ ?_
   ·by_cases hc : q_160 = true
    ·rw [if_pos hc] at eq_169; rw [hc] at S
     refine wl_pure (l' := [(124, .pointer (some ((⟨b_153, 0, .none⟩ : Addr).add (coff gf0 1)))), (123, .bool true), (122, .bool true), (17, pB b_153), (11, v_104), (6, v_86), (3, .int .i64 x_2)]) S tys tys_ok 1 (by kernel_rfl) ?_
     clear S; intro a S
     refine w_go S rfl (op_load (t := (.sl (.sl (.int .u8)))) (x := t_146.1.2) S rfl ty23 rfl rfl rfl (RepAt.add 1 (RepAt.st (t := gf0) B_154.at_)) ?_)
     clear S; intro a v_170 R_171 S
     refine wl_pureK (l' := [(126, v_86), (125, v_170), (123, .bool true), (11, v_104), (3, .int .i64 x_2)]) S tys tys_ok 1 [126, 125, 123, 11, 3] (by kernel_rfl) ?_
     clear S; intro a S
     obtain ⟨t_172, et_172, eq_169⟩ := bindS eq_169
     refine w_go S rfl (op_call (vs := [v_170, v_86]) S rfl cb13 rfl rfl rfl (c13 (Kx K w.heap.size [some b_153, some b_140]) n w_168 t_146.1.2 _ R_171 (⟨l_85, capA .none l_85.length⟩ : Sl (Sl (Int))) _ R_100 et_172) ?_)
     rintro _ w_176 ⟨v_173, rfl, R_174, hb_175⟩; refine ⟨_, rfl, ?_⟩
     replace R_174 := RepV.back R_174 W
     clear S; intro a S
     replace R_106 := R_106.step hb_175
     replace R_171 := R_171.step hb_175
     replace R_100 := R_100.step hb_175
     replace B_141 := B_141.step hb_175
     replace B_154 := B_154.step hb_175
     replace W := W.step hb_175
     obtain rfl := RepV.bool R_174
     refine wl_pureK (l' := [(128, .bool t_172), (11, v_104), (3, .int .i64 x_2)]) S tys tys_ok 1 [128, 11, 3] (by kernel_rfl) ?_
     clear S; intro a S
     obtain rfl := Option.some.inj eq_169
     exact ⟨S.sub (by exact ⟨rfl, rfl, rfl, trivial⟩), W, R_106, B_141, B_154⟩
    ·rw [if_neg hc] at eq_169; rw [show q_160 = false from Bool.eq_false_iff.2 hc] at S
     refine wl_pureK (l' := [(128, .bool false), (11, v_104), (3, .int .i64 x_2)]) S tys tys_ok 5 [128, 11, 3] (by kernel_rfl) ?_
     clear S; intro a S
     obtain rfl := Option.some.inj eq_169
     exact ⟨S.sub (by exact ⟨rfl, rfl, rfl, trivial⟩), W, R_106, B_141, B_154⟩
   clear S W eq_169; rintro a w_177 ⟨S, W, R_106, B_141, B_154⟩
   refine wl_pure (l' := [(129, .bool q_169), (128, .bool q_169), (11, v_104), (3, .int .i64 x_2)]) S tys tys_ok 1 (by kernel_rfl) ?_
   clear S; intro a S
   obtain ⟨q_178, eq_178, h⟩ := bindS h
   refine seg 8 (fun a_ w_ => w_177 = w_ ∧ St 168 a_ [(137, .bool q_178)]) ?_ ?_
   ·by_cases hc : q_169 = true
    ·rw [if_pos hc] at eq_178; rw [hc] at S
     refine wl_pureK (l' := [(132, .bool (decide (x_2 < 0))), (129, .bool true), (11, v_104)]) S tys tys_ok 3 [132, 129, 11] (by kernel_rfl) ?_
     clear S; intro a S
     obtain ⟨q_179, eq_179, eq_178⟩ := bindS eq_178
     refine seg 4 (fun a_ w_ => w_177 = w_ ∧ St 168 a_ [(136, .bool q_179), (129, .bool true)]) ?_ ?_
     ·by_cases hc : (decide (x_2 < 0)) = false
      ·rw [if_pos hc] at eq_179; rw [hc] at S
       refine wl_pure (l' := [(133, v_104), (132, .bool false), (129, .bool true), (11, v_104)]) S tys tys_ok 1 (by kernel_rfl) ?_
       clear S; intro a S
       refine w_go S rfl (op_len (K := _) S rfl ty28 rfl rfl rfl R_106 ?_)
       clear S; intro a G_180 S
       refine wl_pureK (l' := [(136, .bool ((lenI t_103.1) == 16384)), (129, .bool true)]) S tys tys_ok 2 [136, 129] (by kernel_rfl) ?_
       clear S; intro a S
       obtain rfl := Option.some.inj eq_179
       exact ⟨rfl, S.sub (by exact ⟨rfl, rfl, trivial⟩)⟩
      ·rw [if_neg hc] at eq_179; rw [show (decide (x_2 < 0)) = true from (by simpa using hc)] at S
       refine wl_pureK (l' := [(136, .bool true), (129, .bool true)]) S tys tys_ok 4 [136, 129] (by kernel_rfl) ?_
       clear S; intro a S
       obtain rfl := Option.some.inj eq_179
       exact ⟨rfl, S.sub (by exact ⟨rfl, rfl, trivial⟩)⟩
     clear S eq_179; rintro a _ ⟨rfl, S⟩
     refine wl_pure (l' := [(137, .bool q_179), (136, .bool q_179), (129, .bool true)]) S tys tys_ok 1 (by kernel_rfl) ?_
     clear S; intro a S
     obtain rfl := Option.some.inj eq_178
     exact ⟨rfl, S.sub (by exact ⟨rfl, trivial⟩)⟩
    ·rw [if_neg hc] at eq_178; rw [show q_169 = false from Bool.eq_false_iff.2 hc] at S
     refine wl_pureK (l' := [(137, .bool false)]) S tys tys_ok 8 [137] (by kernel_rfl) ?_
     clear S; intro a S
     obtain rfl := Option.some.inj eq_178
     exact ⟨rfl, S.sub (by exact ⟨rfl, trivial⟩)⟩
   clear S eq_178; rintro a _ ⟨rfl, S⟩
   refine wl_pure (l' := [(138, .bool q_178), (137, .bool q_178)]) S tys tys_ok 1 (by kernel_rfl) ?_
   clear S; intro a S
   obtain ⟨q_181, eq_181, h⟩ := bindS h
   refine seg 2 (fun a_ w_ => St 168 a_ [(140, .bool q_181)] ∧ Wd w w_ [some b_153, some b_140] ∧ Bx gt0 25 w_ (Kx K w.heap.size [some b_153, some b_140]) b_140 t_133.1 ∧ Bx gt0 25 w_ (Kx K w.heap.size [some b_153, some b_140]) b_153 t_146.1) ?_ ?_
   ·by_cases hc : q_178 = true
    ·rw [if_pos hc] at eq_181; rw [hc] at S
     obtain ⟨t_182, et_182, eq_181⟩ := bindS eq_181
     refine w_go S rfl (op_call (vs := []) S rfl cb8 rfl rfl rfl (c8 (Kx K w.heap.size [some b_153, some b_140]) n w_177  et_182) ?_)
     rintro _ w_186 ⟨v_183, rfl, R_184, hb_185⟩; refine ⟨_, rfl, ?_⟩
     replace R_184 := RepV.back R_184 W
     clear S; intro a S
     replace B_141 := B_141.step hb_185
     replace B_154 := B_154.step hb_185
     replace W := W.step hb_185
     obtain rfl := RepV.bool R_184
     refine wl_pureK (l' := [(140, .bool t_182)]) S tys tys_ok 1 [140] (by kernel_rfl) ?_
     clear S; intro a S
     obtain rfl := Option.some.inj eq_181
     exact ⟨S.sub (by exact ⟨rfl, trivial⟩), W, B_141, B_154⟩
    ·rw [if_neg hc] at eq_181; rw [show q_178 = false from Bool.eq_false_iff.2 hc] at S
     refine wl_pureK (l' := [(140, .bool false)]) S tys tys_ok 2 [140] (by kernel_rfl) ?_
     clear S; intro a S
     obtain rfl := Option.some.inj eq_181
     exact ⟨S.sub (by exact ⟨rfl, trivial⟩), W, B_141, B_154⟩
   clear S W eq_181; rintro a w_187 ⟨S, W, B_141, B_154⟩
   refine wl_pure (l' := [(2, .bool q_181), (140, .bool q_181)]) S tys tys_ok 1 (by kernel_rfl) ?_
   clear S; intro a S
   refine wpList_nil ?_
   refine then_n ?_
   replace S := S.sub (l' := [(2, .bool q_181)]) (by exact ⟨rfl, trivial⟩)
   refine wp_ret ?_
   refine then_r ?_
   obtain rfl := Option.some.inj h
   exact b_ret1 S rfl rfl ⟨_, rfl, RepV.mkBool, W.below⟩
  ·intro hc
   rw [if_neg (Bool.eq_false_iff.1 hc)] at h
   refine wp_skip ?_
   refine then_n ?_
   replace S := S.sub (l' := []) trivial
   refine wp_seq ?_
   refine wp_region_lit ?_
   refine w_go S rfl (op_buildSlice (K := NoK) (e := (.int .u8)) (vs := [.int .u8 78, .int .u8 67, .int .u8 77, .int .u8 72, .int .u8 12, .int .u8 0, .int .u8 0, .int .u8 0, .int .u8 32, .int .u8 1, .int .u8 12, .int .u8 0, .int .u8 78, .int .u8 67, .int .u8 77, .int .u8 48, .int .u8 16, .int .u8 1, .int .u8 0, .int .u8 0]) (xs := [78, 67, 77, 72, 12, 0, 0, 0, 32, 1, 12, 0, 78, 67, 77, 48, 16, 1, 0, 0]) S W rfl ty28 rfl rfl (by kernel_rfl) rfl rfl rfl rfl rfl ⟨(RepV.mkInt (by decide)), (RepV.mkInt (by decide)), (RepV.mkInt (by decide)), (RepV.mkInt (by decide)), (RepV.mkInt (by decide)), (RepV.mkInt (by decide)), (RepV.mkInt (by decide)), (RepV.mkInt (by decide)), (RepV.mkInt (by decide)), (RepV.mkInt (by decide)), (RepV.mkInt (by decide)), (RepV.mkInt (by decide)), (RepV.mkInt (by decide)), (RepV.mkInt (by decide)), (RepV.mkInt (by decide)), (RepV.mkInt (by decide)), (RepV.mkInt (by decide)), (RepV.mkInt (by decide)), (RepV.mkInt (by decide)), (RepV.mkInt (by decide)), trivial⟩ ?_)
   clear S; intro a w_191 v_188 hb_190 R_189 S
   replace W := W.step hb_190
   refine w_go S rfl (op_mark S W rfl ty28 rfl rfl rfl (by rfl) R_189 ?_)
   clear S; intro a w_193 hm_194 R_192 S
   replace W := W.mk_ hm_194
   replace R_192 : RepV _ _ (Kx K w.heap.size []) _ _ := RepV.weak R_192
   refine wl_pure (l' := [(19, v_188), (142, v_188), (141, v_188)]) S tys tys_ok 1 (by kernel_rfl) ?_
   clear S; intro a S
   refine wpList_nil ?_
   refine then_n ?_
   replace S := S.sub (l' := [(19, v_188)]) (by exact ⟨rfl, trivial⟩)
   refine wp_seq ?_
   refine wp_seq ?_
   refine wp_region_lit ?_
   refine wl_pure (l' := [(20, .int .i64 0), (19, v_188)]) S tys tys_ok 1 (by kernel_rfl) ?_
   clear S; intro a S
   refine wpList_nil ?_
   refine then_n ?_
   obtain ⟨y_205, ey_205, h⟩ := bindS h
   refine wp_cut_ (fun a_ w_ => ∃ (v_206 : Value), St 168 a_ [(19, v_206)] ∧ Wd w w_ [v_206.ownBlock] ∧ Ow (.int .u8) 5 w_ w.heap.size (Kx K w.heap.size [v_206.ownBlock]) v_206 y_205 .none) ?_ ?_
   ·refine wp_block ?_
    refine wp_loop_peel (fun m_ a_ w_ => ∃ (c_195 : Int) (c_197 : List (Int)) , ∃ (v_198 : Value), St 168 a_ [(20, .int .i64 c_195), (19, v_198)] ∧ Wd w w_ [v_198.ownBlock] ∧ InR .i64 c_195 ∧ Ow (.int .u8) 5 w_ w.heap.size (Kx K w.heap.size [v_198.ownBlock]) v_198 c_197 .none ∧ p5_l3 n m_ c_195 c_197 = some y_205) n ?_ ?_
    ·skip
     rw [p5_l3_a] at ey_205
     refine wp_seq ?_
     refine wp_seq ?_
     refine wp_region_lit ?_
     refine wl_pure (l' := [(144, .bool (decide (0 < 65))), (143, .int .i64 0), (20, .int .i64 0), (19, v_188)]) S tys tys_ok 2 (by kernel_rfl) ?_
     clear S; intro a S
     refine wpList_nil ?_
     refine then_n ?_
     replace S := S.sub (l' := [(144, .bool (decide (0 < 65))), (20, .int .i64 0), (19, v_188)]) (by exact ⟨rfl, rfl, rfl, trivial⟩)
     refine wp_cond_split (S.eval (show ev _ _ = some (.bool (decide (0 < 65))) from rfl)) (fun _ => ?_) (fun h_ => absurd h_ (by decide))
     refine wp_skip ?_
     refine then_n ?_
     replace S := S.sub (l' := [(20, .int .i64 0), (19, v_188)]) (by exact ⟨rfl, rfl, trivial⟩)
     refine wp_seq ?_
     refine wp_block ?_
     refine wp_region_lit ?_
     refine wl_pure (l' := [(147, v_188), (20, .int .i64 0), (19, v_188)]) S tys tys_ok 1 (by kernel_rfl) ?_
     clear S; intro a S
     refine w_go S rfl (op_buildSlice (K := K) (e := (.int .u8)) (vs := [.int .u8 12, .int .u8 0, .int .u8 1, .int .u8 0]) (xs := [12, 0, 1, 0]) S W rfl ty28 rfl rfl (by kernel_rfl) rfl rfl rfl rfl rfl ⟨(RepV.mkInt (by decide)), (RepV.mkInt (by decide)), (RepV.mkInt (by decide)), (RepV.mkInt (by decide)), trivial⟩ ?_)
     clear S; intro a w_213 v_210 hb_212 R_211 S
     replace R_192 := R_192.step hb_212
     replace W := W.step hb_212
     obtain ⟨l_214, el_214, ey_205⟩ := bindS ey_205
     refine w_go S rfl (op_append_full S W (E := 5) rfl ty28 un28 by28 rfl rfl rfl rfl R_192 R_211 el_214 ?_)
     clear S; intro a w_216 v_215 NO_217 O_218 S
     replace R_192 := R_192.newO NO_217
     replace R_211 := R_211.newO NO_217
     replace W := W.newO NO_217
     replace O_218 : Ow (.int .u8) 5 w_216 w.heap.size (Kx K w.heap.size [v_215.ownBlock]) v_215 l_214 .none := O_218
     refine wl_pureK (l' := [(19, v_215), (20, .int .i64 0), (19, v_188)]) S tys tys_ok 1 [19, 20] (by kernel_rfl) ?_
     clear S; intro a S
     refine wpList_nil ?_
     refine blk_n ?_
     refine then_n ?_
     refine wp_region_lit ?_
     refine wl_pure (l' := [(145, .int .i64 0), (19, v_215), (20, .int .i64 0), (19, v_188)]) S tys tys_ok 1 (by kernel_rfl) ?_
     clear S; intro a S
     obtain ⟨x_219, ex_219, ey_205⟩ := bindS ey_205
     refine w_go S rfl (op_arith S .i64 (0 + 1) rfl (.inl rfl) rfl rfl rfl rfl ex_219 ?_)
     clear S; intro a S
     refine wl_pure (l' := [(20, .int .i64 x_219), (146, .int .i64 x_219), (145, .int .i64 0), (19, v_215), (20, .int .i64 0), (19, v_188)]) S tys tys_ok 1 (by kernel_rfl) ?_
     clear S; intro a S
     refine wpList_nil ?_
     refine then_n ?_
     exact ⟨x_219, l_214, ⟨v_215, S.sub (by exact ⟨rfl, rfl, trivial⟩), W, (ckI_some ex_219).2.1, O_218, ey_205⟩⟩
    ·clear S W; rintro m_208 a w_220 ⟨c_195, c_197, v_198, S, W, G_196, O_199, hl_209⟩
     cases m_208 with
     | zero => exact absurd hl_209 (by simp [p5_l3])
     | succ m_208 =>
      refine ⟨m_208, rfl, ?_⟩
      rw [p5_l3] at hl_209
      refine wp_seq ?_
      refine wp_seq ?_
      refine wp_region_lit ?_
      refine wl_pure (l' := [(144, .bool (decide (c_195 < 65))), (143, .int .i64 c_195), (20, .int .i64 c_195), (19, v_198)]) S tys tys_ok 2 (by kernel_rfl) ?_
      clear S; intro a S
      refine wpList_nil ?_
      refine then_n ?_
      replace S := S.sub (l' := [(144, .bool (decide (c_195 < 65))), (20, .int .i64 c_195), (19, v_198)]) (by exact ⟨rfl, rfl, rfl, trivial⟩)
      refine wp_cond_split (S.eval (show ev _ _ = some (.bool (decide (c_195 < 65))) from rfl)) ?_ ?_
      ·intro hc
       rw [if_pos hc] at hl_209
       refine wp_skip ?_
       refine then_n ?_
       replace S := S.sub (l' := [(20, .int .i64 c_195), (19, v_198)]) (by exact ⟨rfl, rfl, trivial⟩)
       refine wp_seq ?_
       refine wp_block ?_
       refine wp_region_lit ?_
       refine wl_pure (l' := [(147, v_198), (20, .int .i64 c_195), (19, v_198)]) S tys tys_ok 1 (by kernel_rfl) ?_
       clear S; intro a S
       refine w_go S rfl (op_buildSlice (K := K) (e := (.int .u8)) (vs := [.int .u8 12, .int .u8 0, .int .u8 1, .int .u8 0]) (xs := [12, 0, 1, 0]) S W rfl ty28 rfl rfl (by kernel_rfl) rfl rfl rfl rfl rfl ⟨(RepV.mkInt (by decide)), (RepV.mkInt (by decide)), (RepV.mkInt (by decide)), (RepV.mkInt (by decide)), trivial⟩ ?_)
       clear S; intro a w_224 v_221 hb_223 R_222 S
       replace O_199 := O_199.step hb_223
       replace W := W.step hb_223
       obtain ⟨l_225, el_225, hl_209⟩ := bindS hl_209
       refine w_go S rfl (op_append S W (E := 5) 0 rfl ty28 un28 by28 rfl rfl rfl rfl O_199 rfl R_222 el_225 ?_)
       clear S; intro a w_227 v_226 A_228 O_229 S
       replace R_222 : RepV (.sl (.int .u8)) w_227 (Kx K w.heap.size [v_226.ownBlock]) v_221 (⟨[12, 0, 1, 0], some 4⟩ : Sl (Int)) := R_222.apd A_228 (i := 0) rfl
       replace W : Wd w w_227 [v_226.ownBlock] := W.apd A_228 (i := 0) rfl
       replace O_229 : Ow (.int .u8) 5 w_227 w.heap.size (Kx K w.heap.size [v_226.ownBlock]) v_226 l_225 (capA .none l_225.length) := O_229
       refine wl_pureK (l' := [(19, v_226), (20, .int .i64 c_195), (19, v_198)]) S tys tys_ok 1 [19, 20] (by kernel_rfl) ?_
       clear S; intro a S
       refine wpList_nil ?_
       refine blk_n ?_
       refine then_n ?_
       refine wp_region_lit ?_
       refine wl_pure (l' := [(145, .int .i64 c_195), (19, v_226), (20, .int .i64 c_195), (19, v_198)]) S tys tys_ok 1 (by kernel_rfl) ?_
       clear S; intro a S
       obtain ⟨x_230, ex_230, hl_209⟩ := bindS hl_209
       refine w_go S rfl (op_arith S .i64 (c_195 + 1) rfl (.inl rfl) rfl rfl rfl rfl ex_230 ?_)
       clear S; intro a S
       refine wl_pure (l' := [(20, .int .i64 x_230), (146, .int .i64 x_230), (145, .int .i64 c_195), (19, v_226), (20, .int .i64 c_195), (19, v_198)]) S tys tys_ok 1 (by kernel_rfl) ?_
       clear S; intro a S
       refine wpList_nil ?_
       refine then_n ?_
       exact ⟨x_230, l_225, ⟨v_226, S.sub (by exact ⟨rfl, rfl, trivial⟩), W, (ckI_some ex_230).2.1, O_229.forget, hl_209⟩⟩
      ·intro hc
       rw [if_neg (Bool.eq_false_iff.1 hc)] at hl_209
       refine wp_exit ?_
       refine then_x ?_
       refine then_x ?_
       refine blk_hit ?_
       refine then_n ?_
       obtain rfl := Option.some.inj hl_209
       exact ⟨v_198, S.sub (by exact ⟨rfl, trivial⟩), W, O_199⟩
   clear S W; rintro a w_231 ⟨v_206, S, W, O_207⟩
   refine then_n ?_
   refine wp_seq ?_
   refine wp_region_lit ?_
   refine wl_pure (l' := [(150, v_206), (19, v_206)]) S tys tys_ok 1 (by kernel_rfl) ?_
   clear S; intro a S
   refine w_go S rfl (op_buildSlice (K := K) (e := (.int .u8)) (vs := [.int .u8 0, .int .u8 0, .int .u8 0, .int .u8 0]) (xs := [0, 0, 0, 0]) S W rfl ty28 rfl rfl (by kernel_rfl) rfl rfl rfl rfl rfl ⟨(RepV.mkInt (by decide)), (RepV.mkInt (by decide)), (RepV.mkInt (by decide)), (RepV.mkInt (by decide)), trivial⟩ ?_)
   clear S; intro a w_235 v_232 hb_234 R_233 S
   replace O_207 := O_207.step hb_234
   replace W := W.step hb_234
   obtain ⟨l_236, el_236, h⟩ := bindS h
   refine w_go S rfl (op_append S W (E := 5) 0 rfl ty28 un28 by28 rfl rfl rfl rfl O_207 rfl R_233 el_236 ?_)
   clear S; intro a w_238 v_237 A_239 O_240 S
   replace R_233 : RepV (.sl (.int .u8)) w_238 (Kx K w.heap.size [v_237.ownBlock]) v_232 (⟨[0, 0, 0, 0], some 4⟩ : Sl (Int)) := R_233.apd A_239 (i := 0) rfl
   replace W : Wd w w_238 [v_237.ownBlock] := W.apd A_239 (i := 0) rfl
   replace O_240 : Ow (.int .u8) 5 w_238 w.heap.size (Kx K w.heap.size [v_237.ownBlock]) v_237 l_236 (capA .none l_236.length) := O_240
   refine wl_pureK (l' := [(19, v_237), (19, v_206)]) S tys tys_ok 1 [19] (by kernel_rfl) ?_
   clear S; intro a S
   refine wpList_nil ?_
   refine then_n ?_
   refine wp_seq ?_
   refine wp_region_lit ?_
   refine wl_pure (l' := [(154, v_237), (153, v_237), (19, v_237), (19, v_206)]) S tys tys_ok 2 (by kernel_rfl) ?_
   clear S; intro a S
   refine w_go S rfl (op_len (K := _) S rfl ty28 rfl rfl rfl O_240.read ?_)
   clear S; intro a G_241 S
   obtain ⟨x_242, ex_242, h⟩ := bindS h
   refine w_go S rfl (op_arith S .i64 (288 - (lenI (⟨l_236, capA .none l_236.length⟩ : Sl (Int)))) rfl (.inr (.inl rfl)) rfl rfl rfl rfl ex_242 ?_)
   clear S; intro a S
   obtain ⟨l_243, el_243, h⟩ := bindS h
   refine w_go S rfl (op_append_int (e := (.int .u8)) S W (E := 5) (z0 := 0) 0 _ rfl ty28 ty3 un28 by28 z5 (fun w K => ⟨rfl, by decide⟩) rfl rfl rfl rfl O_240 rfl el_243 ?_)
   clear S; intro a w_245 v_244 A_246 O_247 S
   replace W : Wd w w_245 [v_244.ownBlock] := W.apd A_246 (i := 0) rfl
   replace O_247 : Ow (.int .u8) 5 w_245 w.heap.size (Kx K w.heap.size [v_244.ownBlock]) v_244 l_243 (capA (capA .none l_236.length) l_243.length) := O_247
   refine wl_pureK (l' := [(19, v_244), (19, v_237), (19, v_206)]) S tys tys_ok 1 [19] (by kernel_rfl) ?_
   clear S; intro a S
   refine wpList_nil ?_
   refine then_n ?_
   refine wp_seq ?_
   refine wp_region_lit ?_
   refine wl_pureK (l' := [(159, v_244)]) S tys tys_ok 1 [159] (by kernel_rfl) ?_
   clear S; intro a S
   have R_248 : RepV (.sl (.int .u8)) w_245 (Kx K w.heap.size []) v_244 (⟨l_243, capA (capA .none l_236.length) l_243.length⟩ : Sl (Int)) := O_247.pubAt W 0 rfl
   replace W : Wd w w_245 [] := W.lessAt 0
   obtain ⟨t_249, et_249, h⟩ := bindS h
   refine w_go S rfl (op_call (vs := [v_244]) S rfl cb12 rfl rfl rfl (c12 (Kx K w.heap.size []) n w_245 (⟨l_243, capA (capA .none l_236.length) l_243.length⟩ : Sl (Int)) _ R_248 et_249) ?_)
   rintro _ w_255 ⟨v_250, v_251, rfl, R_252, R_253, hb_254⟩; refine ⟨_, rfl, ?_⟩
   replace R_252 := RepV.back R_252 W
   replace R_253 := RepV.back R_253 W
   clear S; intro a S
   replace R_248 := R_248.step hb_254
   replace W := W.step hb_254
   obtain ⟨rfl, GR_253⟩ := RepV.int R_253
   refine wl_pureK (l' := [(162, .int .i64 t_249.2), (161, v_250)]) S tys tys_ok 3 [162, 161] (by kernel_rfl) ?_
   clear S; intro a S
   refine w_go S rfl (op_alloc (K := K) (n := w.heap.size) (L := []) (t := gt0) (y := (0, ⟨[], some 0⟩)) S rfl rfl rfl _ z25 (fun w K => ⟨[.int .u16 0], [.slice .none 0 0], rfl, ⟨rfl, by decide⟩, ⟨.none, 0, 0, rfl, rfl, Nat.le_refl _, by decide, fun k h => Option.some.inj h, .inl rfl⟩⟩) ?_)
   clear S; intro a w_258 b_256 hb_259 B_257 S
   replace R_252 := R_252.box hb_259
   replace W := W.box hb_259
   refine w_go S rfl (op_store (t' := gt0) S rfl rfl ty25 rfl rfl rfl B_257 (by simp) Ln.whole R_252 ?_)
   intro w_260 hw_261 B_
   replace R_252 := R_252.wrote hw_261 (by simp)
   replace W := W.wrote hw_261 (by simp)
   replace B_257 : Bx gt0 25 w_260 (Kx K w.heap.size [some b_256]) b_256 t_249.1 := B_; clear B_
   refine wl_pureK (l' := [(22, .int .i64 t_249.2)]) S tys tys_ok 1 [22] (by kernel_rfl) ?_
   clear S; intro a S
   refine wpList_nil ?_
   refine then_n ?_
   refine wp_seq ?_
   refine wp_region_lit ?_
   refine wl_pureK (l' := [(165, .bool (t_249.2 == 3))]) S tys tys_ok 3 [165] (by kernel_rfl) ?_
   clear S; intro a S
   obtain ⟨q_262, eq_262, h⟩ := bindS h
   refine seg 2 (fun a_ w_ => St 168 a_ [(167, .bool q_262)] ∧ Wd w w_ [some b_256] ∧ Bx gt0 25 w_ (Kx K w.heap.size [some b_256]) b_256 t_249.1) ?_ ?_
   ·by_cases hc : (t_249.2 == 3) = true
    ·rw [if_pos hc] at eq_262; rw [hc] at S
     obtain ⟨t_263, et_263, eq_262⟩ := bindS eq_262
     refine w_go S rfl (op_call (vs := []) S rfl cb8 rfl rfl rfl (c8 (Kx K w.heap.size [some b_256]) n w_260  et_263) ?_)
     rintro _ w_267 ⟨v_264, rfl, R_265, hb_266⟩; refine ⟨_, rfl, ?_⟩
     replace R_265 := RepV.back R_265 W
     clear S; intro a S
     replace B_257 := B_257.step hb_266
     replace W := W.step hb_266
     obtain rfl := RepV.bool R_265
     refine wl_pure (l' := [(167, .bool t_263), (166, .bool t_263), (165, .bool true)]) S tys tys_ok 1 (by kernel_rfl) ?_
     clear S; intro a S
     obtain rfl := Option.some.inj eq_262
     exact ⟨S.sub (by exact ⟨rfl, trivial⟩), W, B_257⟩
    ·rw [if_neg hc] at eq_262; rw [show (t_249.2 == 3) = false from Bool.eq_false_iff.2 hc] at S
     refine wl_pure (l' := [(167, .bool false), (166, undef), (165, .bool false)]) S tys tys_ok 2 (by kernel_rfl) ?_
     clear S; intro a S
     obtain rfl := Option.some.inj eq_262
     exact ⟨S.sub (by exact ⟨rfl, trivial⟩), W, B_257⟩
   clear S W eq_262; rintro a w_268 ⟨S, W, B_257⟩
   refine wl_pure (l' := [(2, .bool q_262), (167, .bool q_262)]) S tys tys_ok 1 (by kernel_rfl) ?_
   clear S; intro a S
   refine wpList_nil ?_
   refine then_n ?_
   replace S := S.sub (l' := [(2, .bool q_262)]) (by exact ⟨rfl, trivial⟩)
   refine wp_ret ?_
   obtain rfl := Option.some.inj h
   exact b_ret1 S rfl rfl ⟨_, rfl, RepV.mkBool, W.below⟩

end Go.Proofs.Ytlgalcekkffhnaa
