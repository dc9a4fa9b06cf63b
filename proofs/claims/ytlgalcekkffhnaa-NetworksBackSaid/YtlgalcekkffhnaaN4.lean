/- x. -/
import Derived.Test.YtlgalcekkffhnaaN3
set_option linter.unusedVariables false
set_option linter.unusedSimpArgs false
namespace Go.Proofs.Ytlgalcekkffhnaa
open Go.RowKit

def p3_l1 (n : Nat) (x0 : Int × (Sl (Sl (Int)))) : Nat → (Int) → Option ((Unit) ⊕ ((Bool)))
  | 0, _ => .none
  | m + 1, c_13 => if (decide (c_13 < (lenI x0.2))) then ((idx x0.2.xs c_13).bind fun y_27 => if (decide ((lenI y_27) > 1600)) then ((p8 n).bind fun t_34 => some (.inr t_34)) else (ckI .i64 (c_13 + 1)).bind fun x_39 => p3_l1 n x0 m x_39) else some (.inl ())
def p3_l3 (n : Nat) (x0 : Int × (Sl (Sl (Int)))) : Nat → (Int) → (List (Int)) → (List (Sl (Int))) → Option ((List (Int)) × (List (Sl (Int))))
  | 0, _, _, _ => .none
  | m + 1, c_68, c_70, c_73 => if (decide (c_68 < (lenI x0.2))) then ((idx x0.2.xs c_68).bind fun y_97 => (appI c_70 ([lenI y_97])).bind fun l_108 => (idx x0.2.xs c_68).bind fun y_115 => (appI c_73 ([y_115])).bind fun l_125 => (ckI .i64 (c_68 + 1)).bind fun x_130 => p3_l3 n x0 m x_130 l_108 l_125) else some (c_70, c_73)
def p3_l2 (n : Nat) (x0 : Int × (Sl (Sl (Int)))) (x1 : Int) : Nat → (Int) → (List (Int)) → (List (Sl (Int))) → Option ((List (Int)) × (List (Sl (Int))))
  | 0, _, _, _ => .none
  | m + 1, c_41, c_43, c_46 => (remI .u8 x1 4).bind fun x_67 => if (decide (c_41 ≤ x_67)) then ((p3_l3 n x0 n 0 c_43 c_46).bind fun (y_84 : (List (Int)) × (List (Sl (Int)))) => (ckI .i64 (c_41 + 1)).bind fun x_132 => p3_l2 n x0 x1 m x_132 y_84.1 y_84.2) else some (c_43, c_46)
def p3_l5 (n : Nat) (t_153 : (Sl (Int)) × (Int)) : Nat → (Int) → Option (((Int)) ⊕ ((Bool)))
  | 0, _ => .none
  | m + 1, c_647 => (remI .i64 c_647 4).bind fun x_657 => if (x_657 != 0) then ((idx t_153.1.xs c_647).bind fun y_658 => if (y_658 != 0) then (some (.inr false)) else (ckI .i64 (c_647 + 1)).bind fun x_664 => p3_l5 n t_153 m x_664) else some (.inl c_647)
def p3_l4 (n : Nat) (y_57 : (List (Int)) × (List (Sl (Int)))) (t_153 : (Sl (Int)) × (Int)) (t_172 : (Int × (Sl (Sl (Int)))) × (Int)) (t_207 : (Int)) : Nat → (Int) → (Int) → Option (((Int)) ⊕ ((Bool)))
  | 0, _, _ => .none
  | m + 1, c_212, c_214 => if (decide (c_212 < (lenI (⟨y_57.2, .none⟩ : Sl (Sl (Int)))))) then ((ckI .i64 (t_207 + 8)).bind fun x_227 => (ckI .i64 (4 * c_212)).bind fun x_228 => (ckI .i64 (x_227 + x_228)).bind fun x_229 => (p14 n t_153.1 x_229).bind fun t_230 => (if (t_230 != c_214) = false then (ckI .i64 (t_207 + 10)).bind fun x_237 => (ckI .i64 (4 * c_212)).bind fun x_238 => (ckI .i64 (x_237 + x_238)).bind fun x_239 => (p14 n t_153.1 x_239).bind fun t_240 => (idx (⟨y_57.2, .none⟩ : Sl (Sl (Int))).xs c_212).bind fun y_245 => some (t_240 != (lenI y_245)) else some true).bind fun q_235 => (if q_235 = false then (idx t_172.1.2.xs c_212).bind fun y_256 => (capO y_256).bind fun x_263 => (idx (⟨y_57.2, .none⟩ : Sl (Sl (Int))).xs c_212).bind fun y_264 => some (x_263 != (lenI y_264)) else some true).bind fun q_252 => if q_252 then (some (.inr false)) else (idx (⟨y_57.2, .none⟩ : Sl (Sl (Int))).xs c_212).bind fun y_639 => (ckI .i64 (c_214 + (lenI y_639))).bind fun x_646 => (p3_l5 n t_153 n x_646).bind fun (y_651 : ((Int)) ⊕ ((Bool))) => lrK y_651 (fun r => some (.inr r)) fun (s_652 : (Int)) => (ckI .i64 (c_212 + 1)).bind fun x_666 => p3_l4 n y_57 t_153 t_172 t_207 m x_666 s_652) else some (.inl c_214)
def p3 (n : Nat) (x0 : Int × (Sl (Sl (Int)))) (x1 : Int) : Option ((Bool)) :=
  if (decide ((lenI x0.2) > 70)) then ((p8 n).bind fun t_8 => some t_8) else (p3_l1 n x0 n 0).bind fun (y_17 : (Unit) ⊕ ((Bool))) => lrK y_17 some fun (s_18 : Unit) => (p3_l2 n x0 x1 n 0 [] []).bind fun (y_57 : (List (Int)) × (List (Sl (Int)))) => (p9 n (⟨y_57.1, .none⟩ : Sl (Int))).bind fun t_134 => (p10 n (⟨y_57.1, .none⟩ : Sl (Int))).bind fun t_141 => (p11 n (x0.1, (⟨y_57.2, .none⟩ : Sl (Sl (Int))))).bind fun t_153 => (if (t_141.2 != t_134.2) = false then some (t_153.2 != t_134.2) else some true).bind fun q_160 => (if q_160 = false then some (t_141.1 != t_134.1) else some true).bind fun q_161 => (if q_161 = false then some ((lenI t_153.1) != t_141.1) else some true).bind fun q_162 => (if q_162 = false then (capO t_153.1).bind fun x_166 => some (x_166 != t_141.1) else some true).bind fun q_164 => if q_164 then (some false) else if (t_134.2 != 0) then ((p8 n).bind fun t_167 => some t_167) else (p12 n t_153.1).bind fun t_172 => (if (t_172.2 != 0) = false then some (t_172.1.1 != x0.1) else some true).bind fun q_185 => (if q_185 = false then (p13 n t_172.1.2 (⟨y_57.2, .none⟩ : Sl (Sl (Int)))).bind fun t_193 => some (!t_193) else some true).bind fun q_190 => (if q_190 = false then (capO t_172.1.2).bind fun x_203 => some (x_203 != (lenI t_172.1.2)) else some true).bind fun q_199 => if q_199 then (some false) else (p14 n t_153.1 10).bind fun t_207 => (p3_l4 n y_57 t_153 t_172 t_207 n 0 12).bind fun (y_220 : ((Int)) ⊕ ((Bool))) => lrK y_220 some fun (s_221 : (Int)) => (if (t_207 == s_221) = true then (ckI .i64 (t_207 + 4)).bind fun x_669 => (p14 n t_153.1 x_669).bind fun t_670 => (ckI .i64 (4 * (lenI (⟨y_57.2, .none⟩ : Sl (Sl (Int)))))).bind fun x_676 => (ckI .i64 (12 + x_676)).bind fun x_677 => some (t_670 == x_677) else some false).bind fun q_668 => (if q_668 = true then (slI t_153.1 0 4).bind fun s_682 => some (decide (s_682.xs = [78, 67, 77, 72])) else some false).bind fun q_679 => (if q_679 = true then (ckI .i64 (t_207 + 4)).bind fun x_684 => (slI t_153.1 t_207 x_684).bind fun s_687 => some (decide (s_687.xs = [78, 67, 77, 48])) else some false).bind fun q_683 => (if q_683 = true then (p8 n).bind fun t_689 => some t_689 else some false).bind fun q_688 => some q_688
set_option maxHeartbeats 4000000 in
set_option maxRecDepth 100000 in
/-- plugboard/plugboardlaw43.NetworksBack -/
theorem c3 (K : Nat → Prop) (n : Nat) (w : World) (x0 : Int × (Sl (Sl (Int)))) (v0 : Value) (R0 : RepV (.st (.pair (.int .u16) (.sl (.sl (.int .u8))))) w K v0 x0) (x1 : Int) (G1 : InR .u8 x1) {r : (Bool)} (h : p3 n x0 x1 = some r) :
    Calls Try.prog 3 #[v0, .int .u8 x1] w (Ret1 .bool w (Kx K w.heap.size []) r) := by
  refine enter (args := [v0, .int .u8 x1]) Try.func3 rfl 243 rfl rfl fun a S => ?_
  have W := Wd.start w
  replace R0 := R0.arg
  unfold p3 at h
  replace S : St 243 a [(0, v0), (1, .int .u8 x1)] := S
  refine wp_seq ?_
  refine wp_region_lit ?_
  refine w_go S rfl (op_box S rfl rfl rfl rfl rfl R0 ?_)
  clear S; intro a w_3 b_1 hb_4 B_2 S
  replace R0 := R0.box hb_4
  replace W := W.box hb_4
  refine wl_pure (l' := [(4, .bool false), (2, .pointer (some (⟨b_1, 0, .none⟩ : Addr))), (0, v0), (1, .int .u8 x1)]) S tys tys_ok 1 (by kernel_rfl) ?_
  clear S; intro a S
  refine wpList_nil ?_
  refine then_n ?_
  replace S := S.sub (l' := [(2, .pointer (some (⟨b_1, 0, .none⟩ : Addr))), (1, .int .u8 x1)]) (by exact ⟨rfl, rfl, trivial⟩)
  refine wp_seq ?_
  refine wp_seq ?_
  refine wp_region_lit ?_
  refine wl_pure (l' := [(21, .pointer (some ((⟨b_1, 0, .none⟩ : Addr).add (coff (.pair (.int .u16) (.sl (.sl (.int .u8)))) 1)))), (2, .pointer (some (⟨b_1, 0, .none⟩ : Addr))), (1, .int .u8 x1)]) S tys tys_ok 1 (by kernel_rfl) ?_
  clear S; intro a S
  refine w_go S rfl (op_load (t := (.sl (.sl (.int .u8)))) (x := x0.2) S rfl ty23 rfl rfl rfl (RepAt.add 1 (RepAt.st B_2.at_)) ?_)
  clear S; intro a v_5 R_6 S
  refine w_go S rfl (op_len (K := _) S rfl ty23 rfl rfl rfl R_6 ?_)
  clear S; intro a G_7 S
  refine wl_pure (l' := [(24, .bool (decide ((lenI x0.2) > 70))), (23, .int .i64 (lenI x0.2)), (22, v_5), (21, .pointer (some ((⟨b_1, 0, .none⟩ : Addr).add (coff (.pair (.int .u16) (.sl (.sl (.int .u8)))) 1)))), (2, .pointer (some (⟨b_1, 0, .none⟩ : Addr))), (1, .int .u8 x1)]) S tys tys_ok 1 (by kernel_rfl) ?_
  clear S; intro a S
  refine wpList_nil ?_
  refine then_n ?_
  replace S := S.sub (l' := [(24, .bool (decide ((lenI x0.2) > 70))), (2, .pointer (some (⟨b_1, 0, .none⟩ : Addr))), (1, .int .u8 x1)]) (by exact ⟨rfl, rfl, rfl, trivial⟩)
  refine wp_cond_split (S.eval (show ev _ _ = some (.bool (decide ((lenI x0.2) > 70))) from rfl)) ?_ ?_
  · intro hc
    rw [if_pos hc] at h
    refine wp_seq ?_
    refine wp_region_lit ?_
    obtain ⟨t_8, et_8, h⟩ := bindS h
    refine w_go S rfl (op_call (vs := []) S rfl cb8 rfl rfl rfl (c8 (Kx K w.heap.size [some b_1]) n w_3  et_8) ?_)
    rintro _ w_12 ⟨v_9, rfl, R_10, hb_11⟩; refine ⟨_, rfl, ?_⟩
    replace R_10 := RepV.back R_10 W
    clear S; intro a S
    replace B_2 := B_2.step hb_11
    replace W := W.step hb_11
    obtain rfl := RepV.bool R_10
    refine wl_pure (l' := [(4, .bool t_8), (25, .bool t_8), (24, .bool (decide ((lenI x0.2) > 70))), (2, .pointer (some (⟨b_1, 0, .none⟩ : Addr))), (1, .int .u8 x1)]) S tys tys_ok 1 (by kernel_rfl) ?_
    clear S; intro a S
    refine wpList_nil ?_
    refine then_n ?_
    replace S := S.sub (l' := [(4, .bool t_8)]) (by exact ⟨rfl, trivial⟩)
    refine wp_ret ?_
    refine then_r ?_
    obtain rfl := Option.some.inj h
    exact b_ret1 S rfl rfl ⟨_, rfl, RepV.mkBool, W.below⟩
  · intro hc
    rw [if_neg (Bool.eq_false_iff.1 hc)] at h
    refine wp_skip ?_
    refine then_n ?_
    replace S := S.sub (l' := [(2, .pointer (some (⟨b_1, 0, .none⟩ : Addr))), (1, .int .u8 x1)]) (by exact ⟨rfl, rfl, trivial⟩)
    refine wp_seq ?_
    refine wp_region_lit ?_
    refine wl_pure (l' := [(5, .slice .none 0 0), (2, .pointer (some (⟨b_1, 0, .none⟩ : Addr))), (1, .int .u8 x1)]) S tys tys_ok 1 (by kernel_rfl) ?_
    clear S; intro a S
    refine wpList_nil ?_
    refine then_n ?_
    refine wp_seq ?_
    refine wp_region_lit ?_
    refine wl_pure (l' := [(6, .slice .none 0 0), (5, .slice .none 0 0), (2, .pointer (some (⟨b_1, 0, .none⟩ : Addr))), (1, .int .u8 x1)]) S tys tys_ok 1 (by kernel_rfl) ?_
    clear S; intro a S
    refine wpList_nil ?_
    refine then_n ?_
    refine wp_seq ?_
    refine wp_seq ?_
    refine wp_region_lit ?_
    refine wl_pure (l' := [(7, .int .i64 0), (6, .slice .none 0 0), (5, .slice .none 0 0), (2, .pointer (some (⟨b_1, 0, .none⟩ : Addr))), (1, .int .u8 x1)]) S tys tys_ok 1 (by kernel_rfl) ?_
    clear S; intro a S
    refine wpList_nil ?_
    refine then_n ?_
    obtain ⟨y_17, ey_17, h⟩ := bindS h
    refine wp_cut_ (fun a_ w_ => ∃ s_18 : Unit, y_17 = .inl s_18 ∧ (St 243 a_ [(1, .int .u8 x1), (2, .pointer (some (⟨b_1, 0, .none⟩ : Addr))), (5, .slice .none 0 0), (6, .slice .none 0 0)] ∧ Wd w w_ [some b_1] ∧ Bx (.st (.pair (.int .u16) (.sl (.sl (.int .u8))))) 25 w_ (Kx K w.heap.size [some b_1]) b_1 x0)) ?_ ?_
    · refine wp_block ?_
      refine wp_loop_n (fun m_ a_ w_ => ∃ (c_13 : Int) , St 243 a_ [(7, .int .i64 c_13), (6, .slice .none 0 0), (5, .slice .none 0 0), (2, .pointer (some (⟨b_1, 0, .none⟩ : Addr))), (1, .int .u8 x1)] ∧ Wd w w_ [some b_1] ∧ InR .i64 c_13 ∧ Bx (.st (.pair (.int .u16) (.sl (.sl (.int .u8))))) 25 w_ (Kx K w.heap.size [some b_1]) b_1 x0 ∧ p3_l1 n x0 m_ c_13 = some y_17) n ?_ ?_
      · skip
        exact ⟨0, ⟨S.sub (by exact ⟨rfl, rfl, rfl, rfl, rfl, trivial⟩), W, (by decide), B_2, ey_17⟩⟩
      · clear S W; rintro m_19 a w_21 ⟨c_13, S, W, G_14, B_2, hl_20⟩
        cases m_19 with
        | zero => exact absurd hl_20 (by simp [p3_l1])
        | succ m_19 =>
          refine ⟨m_19, rfl, ?_⟩
          rw [p3_l1] at hl_20
          refine wp_seq ?_
          refine wp_seq ?_
          refine wp_region_lit ?_
          refine wl_pure (l' := [(27, .pointer (some ((⟨b_1, 0, .none⟩ : Addr).add (coff (.pair (.int .u16) (.sl (.sl (.int .u8)))) 1)))), (26, .int .i64 c_13), (7, .int .i64 c_13), (6, .slice .none 0 0), (5, .slice .none 0 0), (2, .pointer (some (⟨b_1, 0, .none⟩ : Addr))), (1, .int .u8 x1)]) S tys tys_ok 2 (by kernel_rfl) ?_
          clear S; intro a S
          refine w_go S rfl (op_load (t := (.sl (.sl (.int .u8)))) (x := x0.2) S rfl ty23 rfl rfl rfl (RepAt.add 1 (RepAt.st B_2.at_)) ?_)
          clear S; intro a v_22 R_23 S
          refine w_go S rfl (op_len (K := _) S rfl ty23 rfl rfl rfl R_23 ?_)
          clear S; intro a G_24 S
          refine wl_pure (l' := [(30, .bool (decide (c_13 < (lenI x0.2)))), (29, .int .i64 (lenI x0.2)), (28, v_22), (27, .pointer (some ((⟨b_1, 0, .none⟩ : Addr).add (coff (.pair (.int .u16) (.sl (.sl (.int .u8)))) 1)))), (26, .int .i64 c_13), (7, .int .i64 c_13), (6, .slice .none 0 0), (5, .slice .none 0 0), (2, .pointer (some (⟨b_1, 0, .none⟩ : Addr))), (1, .int .u8 x1)]) S tys tys_ok 1 (by kernel_rfl) ?_
          clear S; intro a S
          refine wpList_nil ?_
          refine then_n ?_
          replace S := S.sub (l' := [(30, .bool (decide (c_13 < (lenI x0.2)))), (7, .int .i64 c_13), (6, .slice .none 0 0), (5, .slice .none 0 0), (2, .pointer (some (⟨b_1, 0, .none⟩ : Addr))), (1, .int .u8 x1)]) (by exact ⟨rfl, rfl, rfl, rfl, rfl, rfl, trivial⟩)
          refine wp_cond_split (S.eval (show ev _ _ = some (.bool (decide (c_13 < (lenI x0.2)))) from rfl)) ?_ ?_
          · intro hc
            rw [if_pos hc] at hl_20
            refine wp_skip ?_
            refine then_n ?_
            replace S := S.sub (l' := [(7, .int .i64 c_13), (6, .slice .none 0 0), (5, .slice .none 0 0), (2, .pointer (some (⟨b_1, 0, .none⟩ : Addr))), (1, .int .u8 x1)]) (by exact ⟨rfl, rfl, rfl, rfl, rfl, trivial⟩)
            refine wp_seq ?_
            refine wp_block ?_
            refine wp_seq ?_
            refine wp_region_lit ?_
            refine wl_pure (l' := [(33, .pointer (some ((⟨b_1, 0, .none⟩ : Addr).add (coff (.pair (.int .u16) (.sl (.sl (.int .u8)))) 1)))), (7, .int .i64 c_13), (6, .slice .none 0 0), (5, .slice .none 0 0), (2, .pointer (some (⟨b_1, 0, .none⟩ : Addr))), (1, .int .u8 x1)]) S tys tys_ok 1 (by kernel_rfl) ?_
            clear S; intro a S
            refine w_go S rfl (op_load (t := (.sl (.sl (.int .u8)))) (x := x0.2) S rfl ty23 rfl rfl rfl (RepAt.add 1 (RepAt.st B_2.at_)) ?_)
            clear S; intro a v_25 R_26 S
            refine wl_pure (l' := [(35, .int .i64 c_13), (34, v_25), (33, .pointer (some ((⟨b_1, 0, .none⟩ : Addr).add (coff (.pair (.int .u16) (.sl (.sl (.int .u8)))) 1)))), (7, .int .i64 c_13), (6, .slice .none 0 0), (5, .slice .none 0 0), (2, .pointer (some (⟨b_1, 0, .none⟩ : Addr))), (1, .int .u8 x1)]) S tys tys_ok 1 (by kernel_rfl) ?_
            clear S; intro a S
            obtain ⟨y_27, ey_27, hl_20⟩ := bindS hl_20
            refine w_go S rfl (op_indexAddr S rfl ty23 rfl rfl rfl R_26 rfl ey_27 ?_)
            clear S; intro a p_28 R_29 H_30 S
            refine w_go S rfl (op_load (t := (.sl (.int .u8))) (x := y_27) S rfl ty28 rfl rfl rfl R_29 ?_)
            clear S; intro a v_31 R_32 S
            refine w_go S rfl (op_len (K := _) S rfl ty28 rfl rfl rfl R_32 ?_)
            clear S; intro a G_33 S
            refine wl_pure (l' := [(39, .bool (decide ((lenI y_27) > 1600))), (38, .int .i64 (lenI y_27)), (37, v_31), (36, .pointer (some p_28)), (35, .int .i64 c_13), (34, v_25), (33, .pointer (some ((⟨b_1, 0, .none⟩ : Addr).add (coff (.pair (.int .u16) (.sl (.sl (.int .u8)))) 1)))), (7, .int .i64 c_13), (6, .slice .none 0 0), (5, .slice .none 0 0), (2, .pointer (some (⟨b_1, 0, .none⟩ : Addr))), (1, .int .u8 x1)]) S tys tys_ok 1 (by kernel_rfl) ?_
            clear S; intro a S
            refine wpList_nil ?_
            refine then_n ?_
            replace S := S.sub (l' := [(39, .bool (decide ((lenI y_27) > 1600))), (7, .int .i64 c_13), (6, .slice .none 0 0), (5, .slice .none 0 0), (2, .pointer (some (⟨b_1, 0, .none⟩ : Addr))), (1, .int .u8 x1)]) (by exact ⟨rfl, rfl, rfl, rfl, rfl, rfl, trivial⟩)
            refine wp_cond_split (S.eval (show ev _ _ = some (.bool (decide ((lenI y_27) > 1600))) from rfl)) ?_ ?_
            · intro hc
              rw [if_pos hc] at hl_20
              refine wp_seq ?_
              refine wp_region_lit ?_
              obtain ⟨t_34, et_34, hl_20⟩ := bindS hl_20
              refine w_go S rfl (op_call (vs := []) S rfl cb8 rfl rfl rfl (c8 (Kx K w.heap.size [some b_1]) n w_21  et_34) ?_)
              rintro _ w_38 ⟨v_35, rfl, R_36, hb_37⟩; refine ⟨_, rfl, ?_⟩
              replace R_36 := RepV.back R_36 W
              clear S; intro a S
              replace B_2 := B_2.step hb_37
              replace W := W.step hb_37
              obtain rfl := RepV.bool R_36
              refine wl_pure (l' := [(4, .bool t_34), (40, .bool t_34), (39, .bool (decide ((lenI y_27) > 1600))), (7, .int .i64 c_13), (6, .slice .none 0 0), (5, .slice .none 0 0), (2, .pointer (some (⟨b_1, 0, .none⟩ : Addr))), (1, .int .u8 x1)]) S tys tys_ok 1 (by kernel_rfl) ?_
              clear S; intro a S
              refine wpList_nil ?_
              refine then_n ?_
              replace S := S.sub (l' := [(4, .bool t_34)]) (by exact ⟨rfl, trivial⟩)
              refine wp_ret ?_
              refine blk_r ?_
              refine then_r ?_
              refine then_r ?_
              refine blk_r ?_
              refine then_r ?_
              refine then_r ?_
              obtain rfl := Option.some.inj hl_20
              obtain rfl := lr_inr h
              exact b_ret1 S rfl rfl ⟨_, rfl, RepV.mkBool, W.below⟩
            · intro hc
              rw [if_neg (Bool.eq_false_iff.1 hc)] at hl_20
              refine wp_skip ?_
              refine blk_n ?_
              refine then_n ?_
              replace S := S.sub (l' := [(7, .int .i64 c_13), (6, .slice .none 0 0), (5, .slice .none 0 0), (2, .pointer (some (⟨b_1, 0, .none⟩ : Addr))), (1, .int .u8 x1)]) (by exact ⟨rfl, rfl, rfl, rfl, rfl, trivial⟩)
              refine wp_region_lit ?_
              refine wl_pure (l' := [(31, .int .i64 c_13), (7, .int .i64 c_13), (6, .slice .none 0 0), (5, .slice .none 0 0), (2, .pointer (some (⟨b_1, 0, .none⟩ : Addr))), (1, .int .u8 x1)]) S tys tys_ok 1 (by kernel_rfl) ?_
              clear S; intro a S
              obtain ⟨x_39, ex_39, hl_20⟩ := bindS hl_20
              refine w_go S rfl (op_arith S .i64 (c_13 + 1) rfl (.inl rfl) rfl rfl rfl rfl ex_39 ?_)
              clear S; intro a S
              refine wl_pure (l' := [(7, .int .i64 x_39), (32, .int .i64 x_39), (31, .int .i64 c_13), (7, .int .i64 c_13), (6, .slice .none 0 0), (5, .slice .none 0 0), (2, .pointer (some (⟨b_1, 0, .none⟩ : Addr))), (1, .int .u8 x1)]) S tys tys_ok 1 (by kernel_rfl) ?_
              clear S; intro a S
              refine wpList_nil ?_
              refine then_n ?_
              exact ⟨x_39, ⟨S.sub (by exact ⟨rfl, rfl, rfl, rfl, rfl, trivial⟩), W, (ckI_some ex_39).2.1, B_2, hl_20⟩⟩
          · intro hc
            rw [if_neg (Bool.eq_false_iff.1 hc)] at hl_20
            refine wp_exit ?_
            refine then_x ?_
            refine then_x ?_
            refine blk_hit ?_
            refine then_n ?_
            obtain rfl := Option.some.inj hl_20
            exact ⟨_, rfl, ⟨S.sub (by exact ⟨rfl, rfl, rfl, rfl, trivial⟩), W, B_2⟩⟩
    clear S W; rintro a w_40 ⟨s_18, rfl, S, W, B_2⟩
    replace h := lr_inl h; try dsimp only at h
    refine then_n ?_
    refine wp_seq ?_
    refine wp_seq ?_
    refine wp_region_lit ?_
    refine wl_pure (l' := [(8, .int .i64 0), (1, .int .u8 x1), (2, .pointer (some (⟨b_1, 0, .none⟩ : Addr))), (5, .slice .none 0 0), (6, .slice .none 0 0)]) S tys tys_ok 1 (by kernel_rfl) ?_
    clear S; intro a S
    refine wpList_nil ?_
    refine then_n ?_
    obtain ⟨y_57, ey_57, h⟩ := bindS h
    refine wp_cut_ (fun a_ w_ => ∃ (v_58 : Value) (v_60 : Value), St 243 a_ [(2, .pointer (some (⟨b_1, 0, .none⟩ : Addr))), (5, v_58), (6, v_60)] ∧ Wd w w_ [v_60.ownBlock, v_58.ownBlock, some b_1] ∧ Bx (.st (.pair (.int .u16) (.sl (.sl (.int .u8))))) 25 w_ (Kx K w.heap.size [v_60.ownBlock, v_58.ownBlock, some b_1]) b_1 x0 ∧ Ow (.int .i64) 3 w_ w.heap.size (Kx K w.heap.size [v_60.ownBlock, v_58.ownBlock, some b_1]) v_58 y_57.1 .none ∧ Ow (.sl (.int .u8)) 28 w_ w.heap.size (Kx K w.heap.size [v_60.ownBlock, v_58.ownBlock, some b_1]) v_60 y_57.2 .none) ?_ ?_
    · refine wp_block ?_
      refine wp_loop_n (fun m_ a_ w_ => ∃ (c_41 : Int) (c_43 : List (Int)) (c_46 : List (Sl (Int))) , ∃ (v_44 : Value) (v_47 : Value), St 243 a_ [(8, .int .i64 c_41), (1, .int .u8 x1), (2, .pointer (some (⟨b_1, 0, .none⟩ : Addr))), (5, v_44), (6, v_47)] ∧ Wd w w_ [v_47.ownBlock, v_44.ownBlock, some b_1] ∧ InR .i64 c_41 ∧ Bx (.st (.pair (.int .u16) (.sl (.sl (.int .u8))))) 25 w_ (Kx K w.heap.size [v_47.ownBlock, v_44.ownBlock, some b_1]) b_1 x0 ∧ Ow (.int .i64) 3 w_ w.heap.size (Kx K w.heap.size [v_47.ownBlock, v_44.ownBlock, some b_1]) v_44 c_43 .none ∧ Ow (.sl (.int .u8)) 28 w_ w.heap.size (Kx K w.heap.size [v_47.ownBlock, v_44.ownBlock, some b_1]) v_47 c_46 .none ∧ p3_l2 n x0 x1 m_ c_41 c_43 c_46 = some y_57) n ?_ ?_
      · skip
        replace B_2 := B_2.more
        replace W := W.more
        have O_64 : Ow (.int .i64) 3 w_40 w.heap.size (Kx K w.heap.size [.none, some b_1]) (.slice .none 0 0) ([] : List (Int)) (some 0) := Ow.nil
        replace B_2 := B_2.more
        replace O_64 := O_64.more
        replace W := W.more
        have O_65 : Ow (.sl (.int .u8)) 28 w_40 w.heap.size (Kx K w.heap.size [.none, .none, some b_1]) (.slice .none 0 0) ([] : List (Sl (Int))) (some 0) := Ow.nil
        exact ⟨0, [], [], ⟨(.slice .none 0 0), (.slice .none 0 0), S.sub (by exact ⟨rfl, rfl, rfl, rfl, rfl, trivial⟩), W, (by decide), B_2, O_64.forget, O_65.forget, ey_57⟩⟩
      · clear S W; rintro m_62 a w_66 ⟨c_41, c_43, c_46, v_44, v_47, S, W, G_42, B_2, O_45, O_48, hl_63⟩
        cases m_62 with
        | zero => exact absurd hl_63 (by simp [p3_l2])
        | succ m_62 =>
          refine ⟨m_62, rfl, ?_⟩
          rw [p3_l2] at hl_63
          refine wp_seq ?_
          refine wp_seq ?_
          refine wp_region_lit ?_
          refine wl_pure (l' := [(42, .int .u8 x1), (41, .int .i64 c_41), (8, .int .i64 c_41), (1, .int .u8 x1), (2, .pointer (some (⟨b_1, 0, .none⟩ : Addr))), (5, v_44), (6, v_47)]) S tys tys_ok 2 (by kernel_rfl) ?_
          clear S; intro a S
          obtain ⟨x_67, ex_67, hl_63⟩ := bindS hl_63
          refine w_go S rfl (op_rem S .u8 rfl rfl rfl rfl rfl ex_67 ?_)
          clear S; intro a S
          refine w_go S rfl (op_conv S .i64 .bool .bool rfl ty5 ty3 rfl rfl rfl (widen (inR_rem ex_67) (by decide)).1 ?_)
          clear S; intro a S
          refine wl_pure (l' := [(45, .bool (decide (c_41 ≤ x_67))), (44, .int .i64 x_67), (43, .int .u8 x_67), (42, .int .u8 x1), (41, .int .i64 c_41), (8, .int .i64 c_41), (1, .int .u8 x1), (2, .pointer (some (⟨b_1, 0, .none⟩ : Addr))), (5, v_44), (6, v_47)]) S tys tys_ok 1 (by kernel_rfl) ?_
          clear S; intro a S
          refine wpList_nil ?_
          refine then_n ?_
          replace S := S.sub (l' := [(45, .bool (decide (c_41 ≤ x_67))), (8, .int .i64 c_41), (1, .int .u8 x1), (2, .pointer (some (⟨b_1, 0, .none⟩ : Addr))), (5, v_44), (6, v_47)]) (by exact ⟨rfl, rfl, rfl, rfl, rfl, rfl, trivial⟩)
          refine wp_cond_split (S.eval (show ev _ _ = some (.bool (decide (c_41 ≤ x_67))) from rfl)) ?_ ?_
          · intro hc
            rw [if_pos hc] at hl_63
            refine wp_skip ?_
            refine then_n ?_
            replace S := S.sub (l' := [(8, .int .i64 c_41), (1, .int .u8 x1), (2, .pointer (some (⟨b_1, 0, .none⟩ : Addr))), (5, v_44), (6, v_47)]) (by exact ⟨rfl, rfl, rfl, rfl, rfl, trivial⟩)
            refine wp_seq ?_
            refine wp_block ?_
            refine wp_seq ?_
            refine wp_region_lit ?_
            refine wl_pure (l' := [(9, .int .i64 0), (8, .int .i64 c_41), (1, .int .u8 x1), (2, .pointer (some (⟨b_1, 0, .none⟩ : Addr))), (5, v_44), (6, v_47)]) S tys tys_ok 1 (by kernel_rfl) ?_
            clear S; intro a S
            refine wpList_nil ?_
            refine then_n ?_
            obtain ⟨y_84, ey_84, hl_63⟩ := bindS hl_63
            refine wp_cut_ (fun a_ w_ => ∃ (v_85 : Value) (v_87 : Value), St 243 a_ [(1, .int .u8 x1), (2, .pointer (some (⟨b_1, 0, .none⟩ : Addr))), (5, v_85), (6, v_87), (8, .int .i64 c_41)] ∧ Wd w w_ [v_87.ownBlock, v_85.ownBlock, some b_1] ∧ Bx (.st (.pair (.int .u16) (.sl (.sl (.int .u8))))) 25 w_ (Kx K w.heap.size [v_87.ownBlock, v_85.ownBlock, some b_1]) b_1 x0 ∧ Ow (.int .i64) 3 w_ w.heap.size (Kx K w.heap.size [v_87.ownBlock, v_85.ownBlock, some b_1]) v_85 y_84.1 .none ∧ Ow (.sl (.int .u8)) 28 w_ w.heap.size (Kx K w.heap.size [v_87.ownBlock, v_85.ownBlock, some b_1]) v_87 y_84.2 .none) ?_ ?_
            · refine wp_block ?_
              refine wp_loop_n (fun m_ a_ w_ => ∃ (c_68 : Int) (c_70 : List (Int)) (c_73 : List (Sl (Int))) , ∃ (v_71 : Value) (v_74 : Value), St 243 a_ [(9, .int .i64 c_68), (8, .int .i64 c_41), (1, .int .u8 x1), (2, .pointer (some (⟨b_1, 0, .none⟩ : Addr))), (5, v_71), (6, v_74)] ∧ Wd w w_ [v_74.ownBlock, v_71.ownBlock, some b_1] ∧ InR .i64 c_68 ∧ Bx (.st (.pair (.int .u16) (.sl (.sl (.int .u8))))) 25 w_ (Kx K w.heap.size [v_74.ownBlock, v_71.ownBlock, some b_1]) b_1 x0 ∧ Ow (.int .i64) 3 w_ w.heap.size (Kx K w.heap.size [v_74.ownBlock, v_71.ownBlock, some b_1]) v_71 c_70 .none ∧ Ow (.sl (.int .u8)) 28 w_ w.heap.size (Kx K w.heap.size [v_74.ownBlock, v_71.ownBlock, some b_1]) v_74 c_73 .none ∧ p3_l3 n x0 m_ c_68 c_70 c_73 = some y_84) n ?_ ?_
              · skip
                exact ⟨0, c_43, c_46, ⟨v_44, v_47, S.sub (by exact ⟨rfl, rfl, rfl, rfl, rfl, rfl, trivial⟩), W, (by decide), B_2, O_45, O_48, ey_84⟩⟩
              · clear S W; rintro m_89 a w_91 ⟨c_68, c_70, c_73, v_71, v_74, S, W, G_69, B_2, O_72, O_75, hl_90⟩
                cases m_89 with
                | zero => exact absurd hl_90 (by simp [p3_l3])
                | succ m_89 =>
                  refine ⟨m_89, rfl, ?_⟩
                  rw [p3_l3] at hl_90
                  refine wp_seq ?_
                  refine wp_seq ?_
                  refine wp_region_lit ?_
                  refine wl_pure (l' := [(49, .pointer (some ((⟨b_1, 0, .none⟩ : Addr).add (coff (.pair (.int .u16) (.sl (.sl (.int .u8)))) 1)))), (48, .int .i64 c_68), (9, .int .i64 c_68), (8, .int .i64 c_41), (1, .int .u8 x1), (2, .pointer (some (⟨b_1, 0, .none⟩ : Addr))), (5, v_71), (6, v_74)]) S tys tys_ok 2 (by kernel_rfl) ?_
                  clear S; intro a S
                  refine w_go S rfl (op_load (t := (.sl (.sl (.int .u8)))) (x := x0.2) S rfl ty23 rfl rfl rfl (RepAt.add 1 (RepAt.st B_2.at_)) ?_)
                  clear S; intro a v_92 R_93 S
                  refine w_go S rfl (op_len (K := _) S rfl ty23 rfl rfl rfl R_93 ?_)
                  clear S; intro a G_94 S
                  refine wl_pure (l' := [(52, .bool (decide (c_68 < (lenI x0.2)))), (51, .int .i64 (lenI x0.2)), (50, v_92), (49, .pointer (some ((⟨b_1, 0, .none⟩ : Addr).add (coff (.pair (.int .u16) (.sl (.sl (.int .u8)))) 1)))), (48, .int .i64 c_68), (9, .int .i64 c_68), (8, .int .i64 c_41), (1, .int .u8 x1), (2, .pointer (some (⟨b_1, 0, .none⟩ : Addr))), (5, v_71), (6, v_74)]) S tys tys_ok 1 (by kernel_rfl) ?_
                  clear S; intro a S
                  refine wpList_nil ?_
                  refine then_n ?_
                  replace S := S.sub (l' := [(52, .bool (decide (c_68 < (lenI x0.2)))), (9, .int .i64 c_68), (8, .int .i64 c_41), (1, .int .u8 x1), (2, .pointer (some (⟨b_1, 0, .none⟩ : Addr))), (5, v_71), (6, v_74)]) (by exact ⟨rfl, rfl, rfl, rfl, rfl, rfl, rfl, trivial⟩)
                  refine wp_cond_split (S.eval (show ev _ _ = some (.bool (decide (c_68 < (lenI x0.2)))) from rfl)) ?_ ?_
                  · intro hc
                    rw [if_pos hc] at hl_90
                    refine wp_skip ?_
                    refine then_n ?_
                    replace S := S.sub (l' := [(9, .int .i64 c_68), (8, .int .i64 c_41), (1, .int .u8 x1), (2, .pointer (some (⟨b_1, 0, .none⟩ : Addr))), (5, v_71), (6, v_74)]) (by exact ⟨rfl, rfl, rfl, rfl, rfl, rfl, trivial⟩)
                    refine wp_seq ?_
                    refine wp_block ?_
                    refine wp_seq ?_
                    refine wp_region_lit ?_
                    refine wl_pure (l' := [(56, .pointer (some ((⟨b_1, 0, .none⟩ : Addr).add (coff (.pair (.int .u16) (.sl (.sl (.int .u8)))) 1)))), (55, v_71), (9, .int .i64 c_68), (8, .int .i64 c_41), (1, .int .u8 x1), (2, .pointer (some (⟨b_1, 0, .none⟩ : Addr))), (5, v_71), (6, v_74)]) S tys tys_ok 2 (by kernel_rfl) ?_
                    clear S; intro a S
                    refine w_go S rfl (op_load (t := (.sl (.sl (.int .u8)))) (x := x0.2) S rfl ty23 rfl rfl rfl (RepAt.add 1 (RepAt.st B_2.at_)) ?_)
                    clear S; intro a v_95 R_96 S
                    refine wl_pure (l' := [(58, .int .i64 c_68), (57, v_95), (56, .pointer (some ((⟨b_1, 0, .none⟩ : Addr).add (coff (.pair (.int .u16) (.sl (.sl (.int .u8)))) 1)))), (55, v_71), (9, .int .i64 c_68), (8, .int .i64 c_41), (1, .int .u8 x1), (2, .pointer (some (⟨b_1, 0, .none⟩ : Addr))), (5, v_71), (6, v_74)]) S tys tys_ok 1 (by kernel_rfl) ?_
                    clear S; intro a S
                    obtain ⟨y_97, ey_97, hl_90⟩ := bindS hl_90
                    refine w_go S rfl (op_indexAddr S rfl ty23 rfl rfl rfl R_96 rfl ey_97 ?_)
                    clear S; intro a p_98 R_99 H_100 S
                    refine w_go S rfl (op_load (t := (.sl (.int .u8))) (x := y_97) S rfl ty28 rfl rfl rfl R_99 ?_)
                    clear S; intro a v_101 R_102 S
                    refine w_go S rfl (op_len (K := _) S rfl ty28 rfl rfl rfl R_102 ?_)
                    clear S; intro a G_103 S
                    refine w_go S rfl (op_buildSlice (K := K) (e := (.int .i64)) (vs := [.int .i64 (lenI y_97)]) (xs := [lenI y_97]) S W rfl ty27 rfl rfl (by kernel_rfl) rfl rfl rfl rfl rfl ⟨(RepV.mkInt G_103), trivial⟩ ?_)
                    clear S; intro a w_107 v_104 hb_106 R_105 S
                    replace R_96 := R_96.step hb_106
                    replace R_102 := R_102.step hb_106
                    replace B_2 := B_2.step hb_106
                    replace O_72 := O_72.step hb_106
                    replace O_75 := O_75.step hb_106
                    replace W := W.step hb_106
                    obtain ⟨l_108, el_108, hl_90⟩ := bindS hl_90
                    refine w_go S rfl (op_append S W (E := 3) 1 rfl ty27 un27 by27 rfl rfl rfl rfl O_72 rfl R_105 el_108 ?_)
                    clear S; intro a w_110 v_109 A_111 O_112 S
                    replace R_96 : RepV (.sl (.sl (.int .u8))) w_110 (Kx K w.heap.size [v_74.ownBlock, v_109.ownBlock, some b_1]) v_95 x0.2 := R_96.apd A_111 (i := 1) rfl
                    replace R_102 : RepV (.sl (.int .u8)) w_110 (Kx K w.heap.size [v_74.ownBlock, v_109.ownBlock, some b_1]) v_101 y_97 := R_102.apd A_111 (i := 1) rfl
                    replace R_105 : RepV (.sl (.int .i64)) w_110 (Kx K w.heap.size [v_74.ownBlock, v_109.ownBlock, some b_1]) v_104 (⟨[lenI y_97], some 1⟩ : Sl (Int)) := R_105.apd A_111 (i := 1) rfl
                    replace B_2 : Bx (.st (.pair (.int .u16) (.sl (.sl (.int .u8))))) 25 w_110 (Kx K w.heap.size [v_74.ownBlock, v_109.ownBlock, some b_1]) b_1 x0 := B_2.apd W A_111 (i := 1) rfl (j := 2) rfl (by decide)
                    replace O_75 : Ow (.sl (.int .u8)) 28 w_110 w.heap.size (Kx K w.heap.size [v_74.ownBlock, v_109.ownBlock, some b_1]) v_74 c_73 .none := O_75.apd W A_111 (i := 1) rfl (j := 0) rfl (by decide)
                    replace W : Wd w w_110 [v_74.ownBlock, v_109.ownBlock, some b_1] := W.apd A_111 (i := 1) rfl
                    replace O_112 : Ow (.int .i64) 3 w_110 w.heap.size (Kx K w.heap.size [v_74.ownBlock, v_109.ownBlock, some b_1]) v_109 l_108 (capA .none l_108.length) := O_112
                    refine wl_pure (l' := [(5, v_109), (63, v_109), (62, v_104), (61, .int .i64 (lenI y_97)), (60, v_101), (59, .pointer (some p_98)), (58, .int .i64 c_68), (57, v_95), (56, .pointer (some ((⟨b_1, 0, .none⟩ : Addr).add (coff (.pair (.int .u16) (.sl (.sl (.int .u8)))) 1)))), (55, v_71), (9, .int .i64 c_68), (8, .int .i64 c_41), (1, .int .u8 x1), (2, .pointer (some (⟨b_1, 0, .none⟩ : Addr))), (5, v_71), (6, v_74)]) S tys tys_ok 1 (by kernel_rfl) ?_
                    clear S; intro a S
                    refine wpList_nil ?_
                    refine then_n ?_
                    replace S := S.sub (l' := [(5, v_109), (9, .int .i64 c_68), (8, .int .i64 c_41), (1, .int .u8 x1), (2, .pointer (some (⟨b_1, 0, .none⟩ : Addr))), (6, v_74)]) (by exact ⟨rfl, rfl, rfl, rfl, rfl, rfl, trivial⟩)
                    refine wp_region_lit ?_
                    refine wl_pure (l' := [(65, .pointer (some ((⟨b_1, 0, .none⟩ : Addr).add (coff (.pair (.int .u16) (.sl (.sl (.int .u8)))) 1)))), (64, v_74), (5, v_109), (9, .int .i64 c_68), (8, .int .i64 c_41), (1, .int .u8 x1), (2, .pointer (some (⟨b_1, 0, .none⟩ : Addr))), (6, v_74)]) S tys tys_ok 2 (by kernel_rfl) ?_
                    clear S; intro a S
                    refine w_go S rfl (op_load (t := (.sl (.sl (.int .u8)))) (x := x0.2) S rfl ty23 rfl rfl rfl (RepAt.add 1 (RepAt.st B_2.at_)) ?_)
                    clear S; intro a v_113 R_114 S
                    refine wl_pure (l' := [(67, .int .i64 c_68), (66, v_113), (65, .pointer (some ((⟨b_1, 0, .none⟩ : Addr).add (coff (.pair (.int .u16) (.sl (.sl (.int .u8)))) 1)))), (64, v_74), (5, v_109), (9, .int .i64 c_68), (8, .int .i64 c_41), (1, .int .u8 x1), (2, .pointer (some (⟨b_1, 0, .none⟩ : Addr))), (6, v_74)]) S tys tys_ok 1 (by kernel_rfl) ?_
                    clear S; intro a S
                    obtain ⟨y_115, ey_115, hl_90⟩ := bindS hl_90
                    refine w_go S rfl (op_indexAddr S rfl ty23 rfl rfl rfl R_114 rfl ey_115 ?_)
                    clear S; intro a p_116 R_117 H_118 S
                    refine w_go S rfl (op_load (t := (.sl (.int .u8))) (x := y_115) S rfl ty28 rfl rfl rfl R_117 ?_)
                    clear S; intro a v_119 R_120 S
                    refine w_go S rfl (op_buildSlice (K := K) (e := (.sl (.int .u8))) (vs := [v_119]) (xs := [y_115]) S W rfl ty23 rfl rfl (by kernel_rfl) rfl rfl rfl rfl rfl ⟨R_120, trivial⟩ ?_)
                    clear S; intro a w_124 v_121 hb_123 R_122 S
                    replace R_114 := R_114.step hb_123
                    replace R_120 := R_120.step hb_123
                    replace B_2 := B_2.step hb_123
                    replace O_112 := O_112.step hb_123
                    replace O_75 := O_75.step hb_123
                    replace W := W.step hb_123
                    obtain ⟨l_125, el_125, hl_90⟩ := bindS hl_90
                    refine w_go S rfl (op_append S W (E := 28) 0 rfl ty23 un23 by23 rfl rfl rfl rfl O_75 rfl R_122 el_125 ?_)
                    clear S; intro a w_127 v_126 A_128 O_129 S
                    replace R_114 : RepV (.sl (.sl (.int .u8))) w_127 (Kx K w.heap.size [v_126.ownBlock, v_109.ownBlock, some b_1]) v_113 x0.2 := R_114.apd A_128 (i := 0) rfl
                    replace R_120 : RepV (.sl (.int .u8)) w_127 (Kx K w.heap.size [v_126.ownBlock, v_109.ownBlock, some b_1]) v_119 y_115 := R_120.apd A_128 (i := 0) rfl
                    replace R_122 : RepV (.sl (.sl (.int .u8))) w_127 (Kx K w.heap.size [v_126.ownBlock, v_109.ownBlock, some b_1]) v_121 (⟨[y_115], some 1⟩ : Sl (Sl (Int))) := R_122.apd A_128 (i := 0) rfl
                    replace B_2 : Bx (.st (.pair (.int .u16) (.sl (.sl (.int .u8))))) 25 w_127 (Kx K w.heap.size [v_126.ownBlock, v_109.ownBlock, some b_1]) b_1 x0 := B_2.apd W A_128 (i := 0) rfl (j := 2) rfl (by decide)
                    replace O_112 : Ow (.int .i64) 3 w_127 w.heap.size (Kx K w.heap.size [v_126.ownBlock, v_109.ownBlock, some b_1]) v_109 l_108 (capA .none l_108.length) := O_112.apd W A_128 (i := 0) rfl (j := 1) rfl (by decide)
                    replace W : Wd w w_127 [v_126.ownBlock, v_109.ownBlock, some b_1] := W.apd A_128 (i := 0) rfl
                    replace O_129 : Ow (.sl (.int .u8)) 28 w_127 w.heap.size (Kx K w.heap.size [v_126.ownBlock, v_109.ownBlock, some b_1]) v_126 l_125 (capA .none l_125.length) := O_129
                    refine wl_pure (l' := [(6, v_126), (71, v_126), (70, v_121), (69, v_119), (68, .pointer (some p_116)), (67, .int .i64 c_68), (66, v_113), (65, .pointer (some ((⟨b_1, 0, .none⟩ : Addr).add (coff (.pair (.int .u16) (.sl (.sl (.int .u8)))) 1)))), (64, v_74), (5, v_109), (9, .int .i64 c_68), (8, .int .i64 c_41), (1, .int .u8 x1), (2, .pointer (some (⟨b_1, 0, .none⟩ : Addr))), (6, v_74)]) S tys tys_ok 1 (by kernel_rfl) ?_
                    clear S; intro a S
                    refine wpList_nil ?_
                    refine blk_n ?_
                    refine then_n ?_
                    replace S := S.sub (l' := [(6, v_126), (5, v_109), (9, .int .i64 c_68), (8, .int .i64 c_41), (1, .int .u8 x1), (2, .pointer (some (⟨b_1, 0, .none⟩ : Addr)))]) (by exact ⟨rfl, rfl, rfl, rfl, rfl, rfl, trivial⟩)
                    refine wp_region_lit ?_
                    refine wl_pure (l' := [(53, .int .i64 c_68), (6, v_126), (5, v_109), (9, .int .i64 c_68), (8, .int .i64 c_41), (1, .int .u8 x1), (2, .pointer (some (⟨b_1, 0, .none⟩ : Addr)))]) S tys tys_ok 1 (by kernel_rfl) ?_
                    clear S; intro a S
                    obtain ⟨x_130, ex_130, hl_90⟩ := bindS hl_90
                    refine w_go S rfl (op_arith S .i64 (c_68 + 1) rfl (.inl rfl) rfl rfl rfl rfl ex_130 ?_)
                    clear S; intro a S
                    refine wl_pure (l' := [(9, .int .i64 x_130), (54, .int .i64 x_130), (53, .int .i64 c_68), (6, v_126), (5, v_109), (9, .int .i64 c_68), (8, .int .i64 c_41), (1, .int .u8 x1), (2, .pointer (some (⟨b_1, 0, .none⟩ : Addr)))]) S tys tys_ok 1 (by kernel_rfl) ?_
                    clear S; intro a S
                    refine wpList_nil ?_
                    refine then_n ?_
                    exact ⟨x_130, l_108, l_125, ⟨v_109, v_126, S.sub (by exact ⟨rfl, rfl, rfl, rfl, rfl, rfl, trivial⟩), W, (ckI_some ex_130).2.1, B_2, O_112.forget, O_129.forget, hl_90⟩⟩
                  · intro hc
                    rw [if_neg (Bool.eq_false_iff.1 hc)] at hl_90
                    refine wp_exit ?_
                    refine then_x ?_
                    refine then_x ?_
                    refine blk_hit ?_
                    refine then_n ?_
                    obtain rfl := Option.some.inj hl_90
                    exact ⟨v_71, v_74, S.sub (by exact ⟨rfl, rfl, rfl, rfl, rfl, trivial⟩), W, B_2, O_72, O_75⟩
            clear S W; rintro a w_131 ⟨v_85, v_87, S, W, B_2, O_86, O_88⟩
            refine blk_n ?_
            refine then_n ?_
            refine wp_region_lit ?_
            refine wl_pure (l' := [(46, .int .i64 c_41), (1, .int .u8 x1), (2, .pointer (some (⟨b_1, 0, .none⟩ : Addr))), (5, v_85), (6, v_87), (8, .int .i64 c_41)]) S tys tys_ok 1 (by kernel_rfl) ?_
            clear S; intro a S
            obtain ⟨x_132, ex_132, hl_63⟩ := bindS hl_63
            refine w_go S rfl (op_arith S .i64 (c_41 + 1) rfl (.inl rfl) rfl rfl rfl rfl ex_132 ?_)
            clear S; intro a S
            refine wl_pure (l' := [(8, .int .i64 x_132), (47, .int .i64 x_132), (46, .int .i64 c_41), (1, .int .u8 x1), (2, .pointer (some (⟨b_1, 0, .none⟩ : Addr))), (5, v_85), (6, v_87), (8, .int .i64 c_41)]) S tys tys_ok 1 (by kernel_rfl) ?_
            clear S; intro a S
            refine wpList_nil ?_
            refine then_n ?_
            exact ⟨x_132, y_84.1, y_84.2, ⟨v_85, v_87, S.sub (by exact ⟨rfl, rfl, rfl, rfl, rfl, trivial⟩), W, (ckI_some ex_132).2.1, B_2, O_86, O_88, hl_63⟩⟩
          · intro hc
            rw [if_neg (Bool.eq_false_iff.1 hc)] at hl_63
            refine wp_exit ?_
            refine then_x ?_
            refine then_x ?_
            refine blk_hit ?_
            refine then_n ?_
            obtain rfl := Option.some.inj hl_63
            exact ⟨v_44, v_47, S.sub (by exact ⟨rfl, rfl, rfl, trivial⟩), W, B_2, O_45, O_48⟩
    clear S W; rintro a w_133 ⟨v_58, v_60, S, W, B_2, O_59, O_61⟩
    refine then_n ?_
    refine wp_seq ?_
    refine wp_region_lit ?_
    refine wl_pure (l' := [(73, v_58), (2, .pointer (some (⟨b_1, 0, .none⟩ : Addr))), (5, v_58), (6, v_60)]) S tys tys_ok 1 (by kernel_rfl) ?_
    clear S; intro a S
    obtain ⟨t_134, et_134, h⟩ := bindS h
    refine w_go S rfl (op_call (vs := [v_58]) S rfl cb9 rfl rfl rfl (c9 (Kx K w.heap.size []) n w_133 (⟨y_57.1, .none⟩ : Sl (Int)) _ (Ow.read O_59) et_134) ?_)
    rintro _ w_140 ⟨v_135, v_136, rfl, R_137, R_138, hb_139⟩; refine ⟨_, rfl, ?_⟩
    clear S; intro a S
    replace B_2 := B_2.step hb_139
    replace O_59 := O_59.step hb_139
    replace O_61 := O_61.step hb_139
    replace W := W.step hb_139
    obtain ⟨rfl, GR_137⟩ := RepV.int R_137
    obtain ⟨rfl, GR_138⟩ := RepV.int R_138
    refine wl_pure (l' := [(11, .int .i64 t_134.2), (10, .int .i64 t_134.1), (76, .int .i64 t_134.2), (75, .int .i64 t_134.1), (72, .tuple #[.int .i64 t_134.1, .int .i64 t_134.2]), (74, .tuple #[.int .i64 t_134.1, .int .i64 t_134.2]), (73, v_58), (2, .pointer (some (⟨b_1, 0, .none⟩ : Addr))), (5, v_58), (6, v_60)]) S tys tys_ok 5 (by kernel_rfl) ?_
    clear S; intro a S
    refine wpList_nil ?_
    refine then_n ?_
    replace S := S.sub (l' := [(11, .int .i64 t_134.2), (10, .int .i64 t_134.1), (2, .pointer (some (⟨b_1, 0, .none⟩ : Addr))), (5, v_58), (6, v_60)]) (by exact ⟨rfl, rfl, rfl, rfl, rfl, trivial⟩)
    refine wp_seq ?_
    refine wp_region_lit ?_
    refine wl_pure (l' := [(78, v_58), (11, .int .i64 t_134.2), (10, .int .i64 t_134.1), (2, .pointer (some (⟨b_1, 0, .none⟩ : Addr))), (5, v_58), (6, v_60)]) S tys tys_ok 1 (by kernel_rfl) ?_
    clear S; intro a S
    obtain ⟨t_141, et_141, h⟩ := bindS h
    refine w_go S rfl (op_call (vs := [v_58]) S rfl cb10 rfl rfl rfl (c10 (Kx K w.heap.size []) n w_140 (⟨y_57.1, .none⟩ : Sl (Int)) _ (Ow.read O_59) et_141) ?_)
    rintro _ w_147 ⟨v_142, v_143, rfl, R_144, R_145, hb_146⟩; refine ⟨_, rfl, ?_⟩
    clear S; intro a S
    replace B_2 := B_2.step hb_146
    replace O_59 := O_59.step hb_146
    replace O_61 := O_61.step hb_146
    replace W := W.step hb_146
    obtain ⟨rfl, GR_144⟩ := RepV.int R_144
    obtain ⟨rfl, GR_145⟩ := RepV.int R_145
    refine wl_pure (l' := [(13, .int .i64 t_141.2), (12, .int .i64 t_141.1), (81, .int .i64 t_141.2), (80, .int .i64 t_141.1), (77, .tuple #[.int .i64 t_141.1, .int .i64 t_141.2]), (79, .tuple #[.int .i64 t_141.1, .int .i64 t_141.2]), (78, v_58), (11, .int .i64 t_134.2), (10, .int .i64 t_134.1), (2, .pointer (some (⟨b_1, 0, .none⟩ : Addr))), (5, v_58), (6, v_60)]) S tys tys_ok 5 (by kernel_rfl) ?_
    clear S; intro a S
    refine wpList_nil ?_
    refine then_n ?_
    replace S := S.sub (l' := [(13, .int .i64 t_141.2), (12, .int .i64 t_141.1), (11, .int .i64 t_134.2), (10, .int .i64 t_134.1), (2, .pointer (some (⟨b_1, 0, .none⟩ : Addr))), (6, v_60)]) (by exact ⟨rfl, rfl, rfl, rfl, rfl, rfl, trivial⟩)
    refine wp_seq ?_
    refine wp_region_lit ?_
    refine wl_pure (l' := [(83, .pointer (some ((⟨b_1, 0, .none⟩ : Addr).add (coff (.pair (.int .u16) (.sl (.sl (.int .u8)))) 0)))), (13, .int .i64 t_141.2), (12, .int .i64 t_141.1), (11, .int .i64 t_134.2), (10, .int .i64 t_134.1), (2, .pointer (some (⟨b_1, 0, .none⟩ : Addr))), (6, v_60)]) S tys tys_ok 1 (by kernel_rfl) ?_
    clear S; intro a S
    refine w_go S rfl (op_load (t := (.int .u16)) (x := x0.1) S rfl ty22 rfl rfl rfl (RepAt.add 0 (RepAt.st B_2.at_)) ?_)
    clear S; intro a v_148 R_149 S
    obtain ⟨rfl, GR_149⟩ := RepV.int R_149
    refine wl_pure (l' := [(85, v_60), (84, .int .u16 x0.1), (83, .pointer (some ((⟨b_1, 0, .none⟩ : Addr).add (coff (.pair (.int .u16) (.sl (.sl (.int .u8)))) 0)))), (13, .int .i64 t_141.2), (12, .int .i64 t_141.1), (11, .int .i64 t_134.2), (10, .int .i64 t_134.1), (2, .pointer (some (⟨b_1, 0, .none⟩ : Addr))), (6, v_60)]) S tys tys_ok 1 (by kernel_rfl) ?_
    clear S; intro a S
    have R_150 : RepV (.sl (.sl (.int .u8))) w_147 (Kx K w.heap.size [v_58.ownBlock, some b_1]) v_60 (⟨y_57.2, .none⟩ : Sl (Sl (Int))) := O_61.pubAt W 0 rfl
    replace B_2 : Bx (.st (.pair (.int .u16) (.sl (.sl (.int .u8))))) 25 w_147 (Kx K w.heap.size [v_58.ownBlock, some b_1]) b_1 x0 := B_2.lessAt 0
    replace W : Wd w w_147 [v_58.ownBlock, some b_1] := W.lessAt 0
    refine w_go S rfl (op_build (K := (Kx K w.heap.size [v_58.ownBlock, some b_1])) (f := (.pair (.int .u16) (.sl (.sl (.int .u8))))) (z0 := (0, ⟨[], some 0⟩)) (x := (x0.1, (⟨y_57.2, .none⟩ : Sl (Sl (Int))))) (vs := [.int .u16 x0.1, v_60]) S _ rfl ty25 z25 (fun w K => ⟨[.int .u16 0], [.slice .none 0 0], rfl, ⟨rfl, by decide⟩, ⟨.none, 0, 0, rfl, rfl, Nat.le_refl _, by decide, fun k h => Option.some.inj h, .inl rfl⟩⟩) rfl rfl rfl [(0, .int .u16 x0.1), (1, v_60)] rfl ⟨_, (RepV.mkInt GR_149), rfl, rfl, ⟨_, R_150, rfl, rfl, rfl⟩⟩ ?_)
    clear S; intro a v_151 R_152 S
    obtain ⟨t_153, et_153, h⟩ := bindS h
    refine w_go S rfl (op_call (vs := [v_151]) S rfl cb11 rfl rfl rfl (c11 (Kx K w.heap.size [v_58.ownBlock, some b_1]) n w_147 (x0.1, (⟨y_57.2, .none⟩ : Sl (Sl (Int)))) _ R_152 et_153) ?_)
    rintro _ w_159 ⟨v_154, v_155, rfl, R_156, R_157, hb_158⟩; refine ⟨_, rfl, ?_⟩
    replace R_156 := RepV.back R_156 W
    replace R_157 := RepV.back R_157 W
    clear S; intro a S
    replace R_150 := R_150.step hb_158
    replace R_152 := R_152.step hb_158
    replace B_2 := B_2.step hb_158
    replace W := W.step hb_158
    obtain ⟨rfl, GR_157⟩ := RepV.int R_157
    refine wl_pure (l' := [(15, .int .i64 t_153.2), (14, v_154), (89, .int .i64 t_153.2), (88, v_154), (82, .tuple #[v_154, .int .i64 t_153.2]), (87, .tuple #[v_154, .int .i64 t_153.2]), (86, v_151), (85, v_60), (84, .int .u16 x0.1), (83, .pointer (some ((⟨b_1, 0, .none⟩ : Addr).add (coff (.pair (.int .u16) (.sl (.sl (.int .u8)))) 0)))), (13, .int .i64 t_141.2), (12, .int .i64 t_141.1), (11, .int .i64 t_134.2), (10, .int .i64 t_134.1), (2, .pointer (some (⟨b_1, 0, .none⟩ : Addr))), (6, v_60)]) S tys tys_ok 5 (by kernel_rfl) ?_
    clear S; intro a S
    refine wpList_nil ?_
    refine then_n ?_
    replace S := S.sub (l' := [(15, .int .i64 t_153.2), (14, v_154), (13, .int .i64 t_141.2), (12, .int .i64 t_141.1), (11, .int .i64 t_134.2), (10, .int .i64 t_134.1), (2, .pointer (some (⟨b_1, 0, .none⟩ : Addr))), (6, v_60)]) (by exact ⟨rfl, rfl, rfl, rfl, rfl, rfl, rfl, rfl, trivial⟩)
    refine wp_seq ?_
    refine wp_seq ?_
    refine wp_region_lit ?_
    refine wl_pure (l' := [(93, .bool (t_141.2 != t_134.2)), (92, .bool (t_141.2 != t_134.2)), (91, .int .i64 t_134.2), (90, .int .i64 t_141.2), (15, .int .i64 t_153.2), (14, v_154), (13, .int .i64 t_141.2), (12, .int .i64 t_141.1), (11, .int .i64 t_134.2), (10, .int .i64 t_134.1), (2, .pointer (some (⟨b_1, 0, .none⟩ : Addr))), (6, v_60)]) S tys tys_ok 4 (by kernel_rfl) ?_
    clear S; intro a S
    obtain ⟨q_160, eq_160, h⟩ := bindS h
    refine seg 4 (fun a_ w_ => w_159 = w_ ∧ St 243 a_ [(97, .bool q_160), (14, v_154), (12, .int .i64 t_141.1), (11, .int .i64 t_134.2), (10, .int .i64 t_134.1), (2, .pointer (some (⟨b_1, 0, .none⟩ : Addr))), (6, v_60)]) ?_ ?_
    · by_cases hc : (t_141.2 != t_134.2) = false
      · rw [if_pos hc] at eq_160; rw [hc] at S
        refine wl_pure (l' := [(97, .bool (t_153.2 != t_134.2)), (96, .bool (t_153.2 != t_134.2)), (95, .int .i64 t_134.2), (94, .int .i64 t_153.2), (93, .bool false), (92, .bool false), (91, .int .i64 t_134.2), (90, .int .i64 t_141.2), (15, .int .i64 t_153.2), (14, v_154), (13, .int .i64 t_141.2), (12, .int .i64 t_141.1), (11, .int .i64 t_134.2), (10, .int .i64 t_134.1), (2, .pointer (some (⟨b_1, 0, .none⟩ : Addr))), (6, v_60)]) S tys tys_ok 4 (by kernel_rfl) ?_
        clear S; intro a S
        obtain rfl := Option.some.inj eq_160
        exact ⟨rfl, S.sub (by exact ⟨rfl, rfl, rfl, rfl, rfl, rfl, rfl, trivial⟩)⟩
      · rw [if_neg hc] at eq_160; rw [show (t_141.2 != t_134.2) = true from (by simpa using hc)] at S
        refine wl_pure (l' := [(97, .bool true), (96, undef), (95, undef), (94, undef), (93, .bool true), (92, .bool true), (91, .int .i64 t_134.2), (90, .int .i64 t_141.2), (15, .int .i64 t_153.2), (14, v_154), (13, .int .i64 t_141.2), (12, .int .i64 t_141.1), (11, .int .i64 t_134.2), (10, .int .i64 t_134.1), (2, .pointer (some (⟨b_1, 0, .none⟩ : Addr))), (6, v_60)]) S tys tys_ok 4 (by kernel_rfl) ?_
        clear S; intro a S
        obtain rfl := Option.some.inj eq_160
        exact ⟨rfl, S.sub (by exact ⟨rfl, rfl, rfl, rfl, rfl, rfl, rfl, trivial⟩)⟩
    clear S eq_160; rintro a _ ⟨rfl, S⟩
    refine wl_pure (l' := [(98, .bool q_160), (97, .bool q_160), (14, v_154), (12, .int .i64 t_141.1), (11, .int .i64 t_134.2), (10, .int .i64 t_134.1), (2, .pointer (some (⟨b_1, 0, .none⟩ : Addr))), (6, v_60)]) S tys tys_ok 1 (by kernel_rfl) ?_
    clear S; intro a S
    obtain ⟨q_161, eq_161, h⟩ := bindS h
    refine seg 4 (fun a_ w_ => w_159 = w_ ∧ St 243 a_ [(102, .bool q_161), (14, v_154), (12, .int .i64 t_141.1), (11, .int .i64 t_134.2), (2, .pointer (some (⟨b_1, 0, .none⟩ : Addr))), (6, v_60)]) ?_ ?_
    · by_cases hc : q_160 = false
      · rw [if_pos hc] at eq_161; rw [hc] at S
        refine wl_pure (l' := [(102, .bool (t_141.1 != t_134.1)), (101, .bool (t_141.1 != t_134.1)), (100, .int .i64 t_134.1), (99, .int .i64 t_141.1), (98, .bool false), (97, .bool false), (14, v_154), (12, .int .i64 t_141.1), (11, .int .i64 t_134.2), (10, .int .i64 t_134.1), (2, .pointer (some (⟨b_1, 0, .none⟩ : Addr))), (6, v_60)]) S tys tys_ok 4 (by kernel_rfl) ?_
        clear S; intro a S
        obtain rfl := Option.some.inj eq_161
        exact ⟨rfl, S.sub (by exact ⟨rfl, rfl, rfl, rfl, rfl, rfl, trivial⟩)⟩
      · rw [if_neg hc] at eq_161; rw [show q_160 = true from (by simpa using hc)] at S
        refine wl_pure (l' := [(102, .bool true), (101, undef), (100, undef), (99, undef), (98, .bool true), (97, .bool true), (14, v_154), (12, .int .i64 t_141.1), (11, .int .i64 t_134.2), (10, .int .i64 t_134.1), (2, .pointer (some (⟨b_1, 0, .none⟩ : Addr))), (6, v_60)]) S tys tys_ok 4 (by kernel_rfl) ?_
        clear S; intro a S
        obtain rfl := Option.some.inj eq_161
        exact ⟨rfl, S.sub (by exact ⟨rfl, rfl, rfl, rfl, rfl, rfl, trivial⟩)⟩
    clear S eq_161; rintro a _ ⟨rfl, S⟩
    refine wl_pure (l' := [(103, .bool q_161), (102, .bool q_161), (14, v_154), (12, .int .i64 t_141.1), (11, .int .i64 t_134.2), (2, .pointer (some (⟨b_1, 0, .none⟩ : Addr))), (6, v_60)]) S tys tys_ok 1 (by kernel_rfl) ?_
    clear S; intro a S
    obtain ⟨q_162, eq_162, h⟩ := bindS h
    refine seg 5 (fun a_ w_ => w_159 = w_ ∧ St 243 a_ [(108, .bool q_162), (14, v_154), (12, .int .i64 t_141.1), (11, .int .i64 t_134.2), (2, .pointer (some (⟨b_1, 0, .none⟩ : Addr))), (6, v_60)]) ?_ ?_
    · by_cases hc : q_161 = false
      · rw [if_pos hc] at eq_162; rw [hc] at S
        refine wl_pure (l' := [(104, v_154), (103, .bool false), (102, .bool false), (14, v_154), (12, .int .i64 t_141.1), (11, .int .i64 t_134.2), (2, .pointer (some (⟨b_1, 0, .none⟩ : Addr))), (6, v_60)]) S tys tys_ok 1 (by kernel_rfl) ?_
        clear S; intro a S
        refine w_go S rfl (op_len (K := _) S rfl ty28 rfl rfl rfl R_156 ?_)
        clear S; intro a G_163 S
        refine wl_pure (l' := [(108, .bool ((lenI t_153.1) != t_141.1)), (107, .bool ((lenI t_153.1) != t_141.1)), (106, .int .i64 t_141.1), (105, .int .i64 (lenI t_153.1)), (104, v_154), (103, .bool false), (102, .bool false), (14, v_154), (12, .int .i64 t_141.1), (11, .int .i64 t_134.2), (2, .pointer (some (⟨b_1, 0, .none⟩ : Addr))), (6, v_60)]) S tys tys_ok 3 (by kernel_rfl) ?_
        clear S; intro a S
        obtain rfl := Option.some.inj eq_162
        exact ⟨rfl, S.sub (by exact ⟨rfl, rfl, rfl, rfl, rfl, rfl, trivial⟩)⟩
      · rw [if_neg hc] at eq_162; rw [show q_161 = true from (by simpa using hc)] at S
        refine wl_pure (l' := [(108, .bool true), (107, undef), (106, undef), (105, undef), (104, undef), (103, .bool true), (102, .bool true), (14, v_154), (12, .int .i64 t_141.1), (11, .int .i64 t_134.2), (2, .pointer (some (⟨b_1, 0, .none⟩ : Addr))), (6, v_60)]) S tys tys_ok 5 (by kernel_rfl) ?_
        clear S; intro a S
        obtain rfl := Option.some.inj eq_162
        exact ⟨rfl, S.sub (by exact ⟨rfl, rfl, rfl, rfl, rfl, rfl, trivial⟩)⟩
    clear S eq_162; rintro a _ ⟨rfl, S⟩
    refine wl_pure (l' := [(109, .bool q_162), (108, .bool q_162), (14, v_154), (12, .int .i64 t_141.1), (11, .int .i64 t_134.2), (2, .pointer (some (⟨b_1, 0, .none⟩ : Addr))), (6, v_60)]) S tys tys_ok 1 (by kernel_rfl) ?_
    clear S; intro a S
    obtain ⟨q_164, eq_164, h⟩ := bindS h
    refine seg 5 (fun a_ w_ => w_159 = w_ ∧ St 243 a_ [(114, .bool q_164), (14, v_154), (11, .int .i64 t_134.2), (2, .pointer (some (⟨b_1, 0, .none⟩ : Addr))), (6, v_60)]) ?_ ?_
    · by_cases hc : q_162 = false
      · rw [if_pos hc] at eq_164; rw [hc] at S
        refine wl_pure (l' := [(110, v_154), (109, .bool false), (108, .bool false), (14, v_154), (12, .int .i64 t_141.1), (11, .int .i64 t_134.2), (2, .pointer (some (⟨b_1, 0, .none⟩ : Addr))), (6, v_60)]) S tys tys_ok 1 (by kernel_rfl) ?_
        clear S; intro a S
        obtain ⟨x_166, ex_166, eq_164⟩ := bindS eq_164
        refine w_go S rfl (op_cap (K := _) S rfl ty28 rfl rfl rfl R_156 ex_166 ?_)
        clear S; intro a G_165 S
        refine wl_pure (l' := [(114, .bool (x_166 != t_141.1)), (113, .bool (x_166 != t_141.1)), (112, .int .i64 t_141.1), (111, .int .i64 x_166), (110, v_154), (109, .bool false), (108, .bool false), (14, v_154), (12, .int .i64 t_141.1), (11, .int .i64 t_134.2), (2, .pointer (some (⟨b_1, 0, .none⟩ : Addr))), (6, v_60)]) S tys tys_ok 3 (by kernel_rfl) ?_
        clear S; intro a S
        obtain rfl := Option.some.inj eq_164
        exact ⟨rfl, S.sub (by exact ⟨rfl, rfl, rfl, rfl, rfl, trivial⟩)⟩
      · rw [if_neg hc] at eq_164; rw [show q_162 = true from (by simpa using hc)] at S
        refine wl_pure (l' := [(114, .bool true), (113, undef), (112, undef), (111, undef), (110, undef), (109, .bool true), (108, .bool true), (14, v_154), (12, .int .i64 t_141.1), (11, .int .i64 t_134.2), (2, .pointer (some (⟨b_1, 0, .none⟩ : Addr))), (6, v_60)]) S tys tys_ok 5 (by kernel_rfl) ?_
        clear S; intro a S
        obtain rfl := Option.some.inj eq_164
        exact ⟨rfl, S.sub (by exact ⟨rfl, rfl, rfl, rfl, rfl, trivial⟩)⟩
    clear S eq_164; rintro a _ ⟨rfl, S⟩
    refine wpList_nil ?_
    refine then_n ?_
    refine wp_cond_split (S.eval (show ev _ _ = some (.bool q_164) from rfl)) ?_ ?_
    · intro hc
      rw [if_pos hc] at h
      refine wp_seq ?_
      refine wp_region_lit ?_
      refine wl_pure (l' := [(4, .bool false), (114, .bool q_164), (14, v_154), (11, .int .i64 t_134.2), (2, .pointer (some (⟨b_1, 0, .none⟩ : Addr))), (6, v_60)]) S tys tys_ok 1 (by kernel_rfl) ?_
      clear S; intro a S
      refine wpList_nil ?_
      refine then_n ?_
      replace S := S.sub (l' := [(4, .bool false)]) (by exact ⟨rfl, trivial⟩)
      refine wp_ret ?_
      refine then_r ?_
      obtain rfl := Option.some.inj h
      exact b_ret1 S rfl rfl ⟨_, rfl, RepV.mkBool, W.below⟩
    · intro hc
      rw [if_neg (Bool.eq_false_iff.1 hc)] at h
      refine wp_skip ?_
      refine then_n ?_
      replace S := S.sub (l' := [(14, v_154), (11, .int .i64 t_134.2), (2, .pointer (some (⟨b_1, 0, .none⟩ : Addr))), (6, v_60)]) (by exact ⟨rfl, rfl, rfl, rfl, trivial⟩)
      refine wp_seq ?_
      refine wp_seq ?_
      refine wp_region_lit ?_
      refine wl_pure (l' := [(116, .bool (t_134.2 != 0)), (115, .int .i64 t_134.2), (14, v_154), (11, .int .i64 t_134.2), (2, .pointer (some (⟨b_1, 0, .none⟩ : Addr))), (6, v_60)]) S tys tys_ok 2 (by kernel_rfl) ?_
      clear S; intro a S
      refine wpList_nil ?_
      refine then_n ?_
      replace S := S.sub (l' := [(116, .bool (t_134.2 != 0)), (14, v_154), (2, .pointer (some (⟨b_1, 0, .none⟩ : Addr))), (6, v_60)]) (by exact ⟨rfl, rfl, rfl, rfl, trivial⟩)
      refine wp_cond_split (S.eval (show ev _ _ = some (.bool (t_134.2 != 0)) from rfl)) ?_ ?_
      · intro hc
        rw [if_pos hc] at h
        refine wp_seq ?_
        refine wp_region_lit ?_
        obtain ⟨t_167, et_167, h⟩ := bindS h
        refine w_go S rfl (op_call (vs := []) S rfl cb8 rfl rfl rfl (c8 (Kx K w.heap.size [v_58.ownBlock, some b_1]) n w_159  et_167) ?_)
        rintro _ w_171 ⟨v_168, rfl, R_169, hb_170⟩; refine ⟨_, rfl, ?_⟩
        replace R_169 := RepV.back R_169 W
        clear S; intro a S
        replace R_156 := R_156.step hb_170
        replace R_150 := R_150.step hb_170
        replace B_2 := B_2.step hb_170
        replace W := W.step hb_170
        obtain rfl := RepV.bool R_169
        refine wl_pure (l' := [(4, .bool t_167), (117, .bool t_167), (116, .bool (t_134.2 != 0)), (14, v_154), (2, .pointer (some (⟨b_1, 0, .none⟩ : Addr))), (6, v_60)]) S tys tys_ok 1 (by kernel_rfl) ?_
        clear S; intro a S
        refine wpList_nil ?_
        refine then_n ?_
        replace S := S.sub (l' := [(4, .bool t_167)]) (by exact ⟨rfl, trivial⟩)
        refine wp_ret ?_
        refine then_r ?_
        obtain rfl := Option.some.inj h
        exact b_ret1 S rfl rfl ⟨_, rfl, RepV.mkBool, W.below⟩
      · intro hc
        rw [if_neg (Bool.eq_false_iff.1 hc)] at h
        refine wp_skip ?_
        refine then_n ?_
        replace S := S.sub (l' := [(14, v_154), (2, .pointer (some (⟨b_1, 0, .none⟩ : Addr))), (6, v_60)]) (by exact ⟨rfl, rfl, rfl, trivial⟩)
        refine wp_seq ?_
        refine wp_region_lit ?_
        refine wl_pure (l' := [(119, v_154), (14, v_154), (2, .pointer (some (⟨b_1, 0, .none⟩ : Addr))), (6, v_60)]) S tys tys_ok 1 (by kernel_rfl) ?_
        clear S; intro a S
        obtain ⟨t_172, et_172, h⟩ := bindS h
        refine w_go S rfl (op_call (vs := [v_154]) S rfl cb12 rfl rfl rfl (c12 (Kx K w.heap.size [v_58.ownBlock, some b_1]) n w_159 t_153.1 _ R_156 et_172) ?_)
        rintro _ w_178 ⟨v_173, v_174, rfl, R_175, R_176, hb_177⟩; refine ⟨_, rfl, ?_⟩
        replace R_175 := RepV.back R_175 W
        replace R_176 := RepV.back R_176 W
        clear S; intro a S
        replace R_156 := R_156.step hb_177
        replace R_150 := R_150.step hb_177
        replace B_2 := B_2.step hb_177
        replace W := W.step hb_177
        obtain ⟨rfl, GR_176⟩ := RepV.int R_176
        refine wl_pure (l' := [(122, .int .i64 t_172.2), (121, v_173), (118, .tuple #[v_173, .int .i64 t_172.2]), (120, .tuple #[v_173, .int .i64 t_172.2]), (119, v_154), (14, v_154), (2, .pointer (some (⟨b_1, 0, .none⟩ : Addr))), (6, v_60)]) S tys tys_ok 3 (by kernel_rfl) ?_
        clear S; intro a S
        refine w_go S rfl (op_alloc (K := K) (n := w.heap.size) (L := [v_58.ownBlock, some b_1]) (t := (.st (.pair (.int .u16) (.sl (.sl (.int .u8)))))) (y := (0, ⟨[], some 0⟩)) S rfl rfl rfl _ z25 (fun w K => ⟨[.int .u16 0], [.slice .none 0 0], rfl, ⟨rfl, by decide⟩, ⟨.none, 0, 0, rfl, rfl, Nat.le_refl _, by decide, fun k h => Option.some.inj h, .inl rfl⟩⟩) ?_)
        clear S; intro a w_181 b_179 hb_182 B_180 S
        replace R_156 := R_156.box hb_182
        replace R_150 := R_150.box hb_182
        replace R_175 := R_175.box hb_182
        replace B_2 := B_2.box hb_182
        replace W := W.box hb_182
        refine w_go S rfl (op_store (t' := (.st (.pair (.int .u16) (.sl (.sl (.int .u8)))))) S rfl rfl ty25 rfl rfl rfl B_180 (by simp) Ln.whole R_175 ?_)
        intro w_183 hw_184 B_
        replace R_156 := R_156.wrote hw_184 (by simp)
        replace R_150 := R_150.wrote hw_184 (by simp)
        replace R_175 := R_175.wrote hw_184 (by simp)
        replace B_2 := B_2.wrote hw_184 (by simp) (W.bne (p := 2) (q := 0) (by decide) rfl rfl)
        replace W := W.wrote hw_184 (by simp)
        replace B_180 : Bx (.st (.pair (.int .u16) (.sl (.sl (.int .u8))))) 25 w_183 (Kx K w.heap.size [some b_179, v_58.ownBlock, some b_1]) b_179 t_172.1 := B_; clear B_
        refine wl_pure (l' := [(17, .int .i64 t_172.2), (16, .pointer (some (⟨b_179, 0, .none⟩ : Addr))), (122, .int .i64 t_172.2), (121, v_173), (118, .tuple #[v_173, .int .i64 t_172.2]), (120, .tuple #[v_173, .int .i64 t_172.2]), (119, v_154), (14, v_154), (2, .pointer (some (⟨b_1, 0, .none⟩ : Addr))), (6, v_60)]) S tys tys_ok 1 (by kernel_rfl) ?_
        clear S; intro a S
        refine wpList_nil ?_
        refine then_n ?_
        replace S := S.sub (l' := [(17, .int .i64 t_172.2), (16, .pointer (some (⟨b_179, 0, .none⟩ : Addr))), (14, v_154), (2, .pointer (some (⟨b_1, 0, .none⟩ : Addr))), (6, v_60)]) (by exact ⟨rfl, rfl, rfl, rfl, rfl, trivial⟩)
        refine wp_seq ?_
        refine wp_seq ?_
        refine wp_region_lit ?_
        refine wl_pure (l' := [(125, .bool (t_172.2 != 0)), (124, .bool (t_172.2 != 0)), (123, .int .i64 t_172.2), (17, .int .i64 t_172.2), (16, .pointer (some (⟨b_179, 0, .none⟩ : Addr))), (14, v_154), (2, .pointer (some (⟨b_1, 0, .none⟩ : Addr))), (6, v_60)]) S tys tys_ok 3 (by kernel_rfl) ?_
        clear S; intro a S
        obtain ⟨q_185, eq_185, h⟩ := bindS h
        refine seg 6 (fun a_ w_ => w_183 = w_ ∧ St 243 a_ [(131, .bool q_185), (16, .pointer (some (⟨b_179, 0, .none⟩ : Addr))), (14, v_154), (6, v_60)]) ?_ ?_
        · by_cases hc : (t_172.2 != 0) = false
          · rw [if_pos hc] at eq_185; rw [hc] at S
            refine wl_pure (l' := [(126, .pointer (some ((⟨b_179, 0, .none⟩ : Addr).add (coff (.pair (.int .u16) (.sl (.sl (.int .u8)))) 0)))), (125, .bool false), (124, .bool false), (123, .int .i64 t_172.2), (17, .int .i64 t_172.2), (16, .pointer (some (⟨b_179, 0, .none⟩ : Addr))), (14, v_154), (2, .pointer (some (⟨b_1, 0, .none⟩ : Addr))), (6, v_60)]) S tys tys_ok 1 (by kernel_rfl) ?_
            clear S; intro a S
            refine w_go S rfl (op_load (t := (.int .u16)) (x := t_172.1.1) S rfl ty22 rfl rfl rfl (RepAt.add 0 (RepAt.st B_180.at_)) ?_)
            clear S; intro a v_186 R_187 S
            obtain ⟨rfl, GR_187⟩ := RepV.int R_187
            refine wl_pure (l' := [(128, .pointer (some ((⟨b_1, 0, .none⟩ : Addr).add (coff (.pair (.int .u16) (.sl (.sl (.int .u8)))) 0)))), (127, .int .u16 t_172.1.1), (126, .pointer (some ((⟨b_179, 0, .none⟩ : Addr).add (coff (.pair (.int .u16) (.sl (.sl (.int .u8)))) 0)))), (125, .bool false), (124, .bool false), (123, .int .i64 t_172.2), (17, .int .i64 t_172.2), (16, .pointer (some (⟨b_179, 0, .none⟩ : Addr))), (14, v_154), (2, .pointer (some (⟨b_1, 0, .none⟩ : Addr))), (6, v_60)]) S tys tys_ok 1 (by kernel_rfl) ?_
            clear S; intro a S
            refine w_go S rfl (op_load (t := (.int .u16)) (x := x0.1) S rfl ty22 rfl rfl rfl (RepAt.add 0 (RepAt.st B_2.at_)) ?_)
            clear S; intro a v_188 R_189 S
            obtain ⟨rfl, GR_189⟩ := RepV.int R_189
            refine wl_pure (l' := [(131, .bool (t_172.1.1 != x0.1)), (130, .bool (t_172.1.1 != x0.1)), (129, .int .u16 x0.1), (128, .pointer (some ((⟨b_1, 0, .none⟩ : Addr).add (coff (.pair (.int .u16) (.sl (.sl (.int .u8)))) 0)))), (127, .int .u16 t_172.1.1), (126, .pointer (some ((⟨b_179, 0, .none⟩ : Addr).add (coff (.pair (.int .u16) (.sl (.sl (.int .u8)))) 0)))), (125, .bool false), (124, .bool false), (123, .int .i64 t_172.2), (17, .int .i64 t_172.2), (16, .pointer (some (⟨b_179, 0, .none⟩ : Addr))), (14, v_154), (2, .pointer (some (⟨b_1, 0, .none⟩ : Addr))), (6, v_60)]) S tys tys_ok 2 (by kernel_rfl) ?_
            clear S; intro a S
            obtain rfl := Option.some.inj eq_185
            exact ⟨rfl, S.sub (by exact ⟨rfl, rfl, rfl, rfl, trivial⟩)⟩
          · rw [if_neg hc] at eq_185; rw [show (t_172.2 != 0) = true from (by simpa using hc)] at S
            refine wl_pure (l' := [(131, .bool true), (130, undef), (129, undef), (128, undef), (127, undef), (126, undef), (125, .bool true), (124, .bool true), (123, .int .i64 t_172.2), (17, .int .i64 t_172.2), (16, .pointer (some (⟨b_179, 0, .none⟩ : Addr))), (14, v_154), (2, .pointer (some (⟨b_1, 0, .none⟩ : Addr))), (6, v_60)]) S tys tys_ok 6 (by kernel_rfl) ?_
            clear S; intro a S
            obtain rfl := Option.some.inj eq_185
            exact ⟨rfl, S.sub (by exact ⟨rfl, rfl, rfl, rfl, trivial⟩)⟩
        clear S eq_185; rintro a _ ⟨rfl, S⟩
        refine wl_pure (l' := [(132, .bool q_185), (131, .bool q_185), (16, .pointer (some (⟨b_179, 0, .none⟩ : Addr))), (14, v_154), (6, v_60)]) S tys tys_ok 1 (by kernel_rfl) ?_
        clear S; intro a S
        obtain ⟨q_190, eq_190, h⟩ := bindS h
        refine seg 6 (fun a_ w_ => St 243 a_ [(138, .bool q_190), (16, .pointer (some (⟨b_179, 0, .none⟩ : Addr))), (14, v_154), (6, v_60)] ∧ Wd w w_ [some b_179, v_58.ownBlock, some b_1] ∧ RepV (.sl (.int .u8)) w_ (Kx K w.heap.size [some b_179, v_58.ownBlock, some b_1]) v_154 t_153.1 ∧ RepV (.sl (.sl (.int .u8))) w_ (Kx K w.heap.size [some b_179, v_58.ownBlock, some b_1]) v_60 (⟨y_57.2, .none⟩ : Sl (Sl (Int))) ∧ Bx (.st (.pair (.int .u16) (.sl (.sl (.int .u8))))) 25 w_ (Kx K w.heap.size [some b_179, v_58.ownBlock, some b_1]) b_1 x0 ∧ Bx (.st (.pair (.int .u16) (.sl (.sl (.int .u8))))) 25 w_ (Kx K w.heap.size [some b_179, v_58.ownBlock, some b_1]) b_179 t_172.1) ?_ ?_
        · by_cases hc : q_185 = false
          · rw [if_pos hc] at eq_190; rw [hc] at S
            refine wl_pure (l' := [(133, .pointer (some ((⟨b_179, 0, .none⟩ : Addr).add (coff (.pair (.int .u16) (.sl (.sl (.int .u8)))) 1)))), (132, .bool false), (131, .bool false), (16, .pointer (some (⟨b_179, 0, .none⟩ : Addr))), (14, v_154), (6, v_60)]) S tys tys_ok 1 (by kernel_rfl) ?_
            clear S; intro a S
            refine w_go S rfl (op_load (t := (.sl (.sl (.int .u8)))) (x := t_172.1.2) S rfl ty23 rfl rfl rfl (RepAt.add 1 (RepAt.st B_180.at_)) ?_)
            clear S; intro a v_191 R_192 S
            refine wl_pure (l' := [(135, v_60), (134, v_191), (133, .pointer (some ((⟨b_179, 0, .none⟩ : Addr).add (coff (.pair (.int .u16) (.sl (.sl (.int .u8)))) 1)))), (132, .bool false), (131, .bool false), (16, .pointer (some (⟨b_179, 0, .none⟩ : Addr))), (14, v_154), (6, v_60)]) S tys tys_ok 1 (by kernel_rfl) ?_
            clear S; intro a S
            obtain ⟨t_193, et_193, eq_190⟩ := bindS eq_190
            refine w_go S rfl (op_call (vs := [v_191, v_60]) S rfl cb13 rfl rfl rfl (c13 (Kx K w.heap.size [some b_179, v_58.ownBlock, some b_1]) n w_183 t_172.1.2 _ R_192 (⟨y_57.2, .none⟩ : Sl (Sl (Int))) _ R_150 et_193) ?_)
            rintro _ w_197 ⟨v_194, rfl, R_195, hb_196⟩; refine ⟨_, rfl, ?_⟩
            replace R_195 := RepV.back R_195 W
            clear S; intro a S
            replace R_156 := R_156.step hb_196
            replace R_150 := R_150.step hb_196
            replace R_192 := R_192.step hb_196
            replace B_2 := B_2.step hb_196
            replace B_180 := B_180.step hb_196
            replace W := W.step hb_196
            obtain rfl := RepV.bool R_195
            refine wl_pure (l' := [(138, .bool (!t_193)), (137, .bool (!t_193)), (136, .bool t_193), (135, v_60), (134, v_191), (133, .pointer (some ((⟨b_179, 0, .none⟩ : Addr).add (coff (.pair (.int .u16) (.sl (.sl (.int .u8)))) 1)))), (132, .bool false), (131, .bool false), (16, .pointer (some (⟨b_179, 0, .none⟩ : Addr))), (14, v_154), (6, v_60)]) S tys tys_ok 2 (by kernel_rfl) ?_
            clear S; intro a S
            obtain rfl := Option.some.inj eq_190
            exact ⟨S.sub (by exact ⟨rfl, rfl, rfl, rfl, trivial⟩), W, R_156, R_150, B_2, B_180⟩
          · rw [if_neg hc] at eq_190; rw [show q_185 = true from (by simpa using hc)] at S
            refine wl_pure (l' := [(138, .bool true), (137, undef), (136, undef), (135, undef), (134, undef), (133, undef), (132, .bool true), (131, .bool true), (16, .pointer (some (⟨b_179, 0, .none⟩ : Addr))), (14, v_154), (6, v_60)]) S tys tys_ok 6 (by kernel_rfl) ?_
            clear S; intro a S
            obtain rfl := Option.some.inj eq_190
            exact ⟨S.sub (by exact ⟨rfl, rfl, rfl, rfl, trivial⟩), W, R_156, R_150, B_2, B_180⟩
        clear S W eq_190; rintro a w_198 ⟨S, W, R_156, R_150, B_2, B_180⟩
        refine wl_pure (l' := [(139, .bool q_190), (138, .bool q_190), (16, .pointer (some (⟨b_179, 0, .none⟩ : Addr))), (14, v_154), (6, v_60)]) S tys tys_ok 1 (by kernel_rfl) ?_
        clear S; intro a S
        obtain ⟨q_199, eq_199, h⟩ := bindS h
        refine seg 8 (fun a_ w_ => w_198 = w_ ∧ St 243 a_ [(147, .bool q_199), (16, .pointer (some (⟨b_179, 0, .none⟩ : Addr))), (14, v_154), (6, v_60)]) ?_ ?_
        · by_cases hc : q_190 = false
          · rw [if_pos hc] at eq_199; rw [hc] at S
            refine wl_pure (l' := [(140, .pointer (some ((⟨b_179, 0, .none⟩ : Addr).add (coff (.pair (.int .u16) (.sl (.sl (.int .u8)))) 1)))), (139, .bool false), (138, .bool false), (16, .pointer (some (⟨b_179, 0, .none⟩ : Addr))), (14, v_154), (6, v_60)]) S tys tys_ok 1 (by kernel_rfl) ?_
            clear S; intro a S
            refine w_go S rfl (op_load (t := (.sl (.sl (.int .u8)))) (x := t_172.1.2) S rfl ty23 rfl rfl rfl (RepAt.add 1 (RepAt.st B_180.at_)) ?_)
            clear S; intro a v_200 R_201 S
            obtain ⟨x_203, ex_203, eq_199⟩ := bindS eq_199
            refine w_go S rfl (op_cap (K := _) S rfl ty23 rfl rfl rfl R_201 ex_203 ?_)
            clear S; intro a G_202 S
            refine wl_pure (l' := [(143, .pointer (some ((⟨b_179, 0, .none⟩ : Addr).add (coff (.pair (.int .u16) (.sl (.sl (.int .u8)))) 1)))), (142, .int .i64 x_203), (141, v_200), (140, .pointer (some ((⟨b_179, 0, .none⟩ : Addr).add (coff (.pair (.int .u16) (.sl (.sl (.int .u8)))) 1)))), (139, .bool false), (138, .bool false), (16, .pointer (some (⟨b_179, 0, .none⟩ : Addr))), (14, v_154), (6, v_60)]) S tys tys_ok 1 (by kernel_rfl) ?_
            clear S; intro a S
            refine w_go S rfl (op_load (t := (.sl (.sl (.int .u8)))) (x := t_172.1.2) S rfl ty23 rfl rfl rfl (RepAt.add 1 (RepAt.st B_180.at_)) ?_)
            clear S; intro a v_204 R_205 S
            refine w_go S rfl (op_len (K := _) S rfl ty23 rfl rfl rfl R_205 ?_)
            clear S; intro a G_206 S
            refine wl_pure (l' := [(147, .bool (x_203 != (lenI t_172.1.2))), (146, .bool (x_203 != (lenI t_172.1.2))), (145, .int .i64 (lenI t_172.1.2)), (144, v_204), (143, .pointer (some ((⟨b_179, 0, .none⟩ : Addr).add (coff (.pair (.int .u16) (.sl (.sl (.int .u8)))) 1)))), (142, .int .i64 x_203), (141, v_200), (140, .pointer (some ((⟨b_179, 0, .none⟩ : Addr).add (coff (.pair (.int .u16) (.sl (.sl (.int .u8)))) 1)))), (139, .bool false), (138, .bool false), (16, .pointer (some (⟨b_179, 0, .none⟩ : Addr))), (14, v_154), (6, v_60)]) S tys tys_ok 2 (by kernel_rfl) ?_
            clear S; intro a S
            obtain rfl := Option.some.inj eq_199
            exact ⟨rfl, S.sub (by exact ⟨rfl, rfl, rfl, rfl, trivial⟩)⟩
          · rw [if_neg hc] at eq_199; rw [show q_190 = true from (by simpa using hc)] at S
            refine wl_pure (l' := [(147, .bool true), (146, undef), (145, undef), (144, undef), (143, undef), (142, undef), (141, undef), (140, undef), (139, .bool true), (138, .bool true), (16, .pointer (some (⟨b_179, 0, .none⟩ : Addr))), (14, v_154), (6, v_60)]) S tys tys_ok 8 (by kernel_rfl) ?_
            clear S; intro a S
            obtain rfl := Option.some.inj eq_199
            exact ⟨rfl, S.sub (by exact ⟨rfl, rfl, rfl, rfl, trivial⟩)⟩
        clear S eq_199; rintro a _ ⟨rfl, S⟩
        refine wpList_nil ?_
        refine then_n ?_
        refine wp_cond_split (S.eval (show ev _ _ = some (.bool q_199) from rfl)) ?_ ?_
        · intro hc
          rw [if_pos hc] at h
          refine wp_seq ?_
          refine wp_region_lit ?_
          refine wl_pure (l' := [(4, .bool false), (147, .bool q_199), (16, .pointer (some (⟨b_179, 0, .none⟩ : Addr))), (14, v_154), (6, v_60)]) S tys tys_ok 1 (by kernel_rfl) ?_
          clear S; intro a S
          refine wpList_nil ?_
          refine then_n ?_
          replace S := S.sub (l' := [(4, .bool false)]) (by exact ⟨rfl, trivial⟩)
          refine wp_ret ?_
          refine then_r ?_
          obtain rfl := Option.some.inj h
          exact b_ret1 S rfl rfl ⟨_, rfl, RepV.mkBool, W.below⟩
        · intro hc
          rw [if_neg (Bool.eq_false_iff.1 hc)] at h
          refine wp_skip ?_
          refine then_n ?_
          replace S := S.sub (l' := [(16, .pointer (some (⟨b_179, 0, .none⟩ : Addr))), (14, v_154), (6, v_60)]) (by exact ⟨rfl, rfl, rfl, trivial⟩)
          refine wp_seq ?_
          refine wp_region_lit ?_
          refine wl_pure (l' := [(148, v_154), (16, .pointer (some (⟨b_179, 0, .none⟩ : Addr))), (14, v_154), (6, v_60)]) S tys tys_ok 1 (by kernel_rfl) ?_
          clear S; intro a S
          obtain ⟨t_207, et_207, h⟩ := bindS h
          refine w_go S rfl (op_call (vs := [v_154, .int .i64 10]) S rfl cb14 rfl rfl rfl (c14 (Kx K w.heap.size [some b_179, v_58.ownBlock, some b_1]) n w_198 t_153.1 _ R_156 10 (by decide) et_207) ?_)
          rintro _ w_211 ⟨v_208, rfl, R_209, hb_210⟩; refine ⟨_, rfl, ?_⟩
          replace R_209 := RepV.back R_209 W
          clear S; intro a S
          replace R_156 := R_156.step hb_210
          replace R_150 := R_150.step hb_210
          replace B_2 := B_2.step hb_210
          replace B_180 := B_180.step hb_210
          replace W := W.step hb_210
          obtain ⟨rfl, GR_209⟩ := RepV.int R_209
          refine wl_pure (l' := [(18, .int .i64 t_207), (149, .int .i64 t_207), (148, v_154), (16, .pointer (some (⟨b_179, 0, .none⟩ : Addr))), (14, v_154), (6, v_60)]) S tys tys_ok 1 (by kernel_rfl) ?_
          clear S; intro a S
          refine wpList_nil ?_
          refine then_n ?_
          replace S := S.sub (l' := [(18, .int .i64 t_207), (16, .pointer (some (⟨b_179, 0, .none⟩ : Addr))), (14, v_154), (6, v_60)]) (by exact ⟨rfl, rfl, rfl, rfl, trivial⟩)
          refine wp_seq ?_
          refine wp_region_lit ?_
          refine wl_pure (l' := [(19, .int .i64 12), (18, .int .i64 t_207), (16, .pointer (some (⟨b_179, 0, .none⟩ : Addr))), (14, v_154), (6, v_60)]) S tys tys_ok 1 (by kernel_rfl) ?_
          clear S; intro a S
          refine wpList_nil ?_
          refine then_n ?_
          refine wp_seq ?_
          refine wp_seq ?_
          refine wp_region_lit ?_
          refine wl_pure (l' := [(20, .int .i64 0), (19, .int .i64 12), (18, .int .i64 t_207), (16, .pointer (some (⟨b_179, 0, .none⟩ : Addr))), (14, v_154), (6, v_60)]) S tys tys_ok 1 (by kernel_rfl) ?_
          clear S; intro a S
          refine wpList_nil ?_
          refine then_n ?_
          obtain ⟨y_220, ey_220, h⟩ := bindS h
          refine wp_cut_ (fun a_ w_ => ∃ s_221 : (Int), y_220 = .inl s_221 ∧ (St 243 a_ [(6, v_60), (14, v_154), (18, .int .i64 t_207), (19, .int .i64 s_221)] ∧ Wd w w_ [some b_179, v_58.ownBlock, some b_1] ∧ InR .i64 s_221 ∧ RepV (.sl (.sl (.int .u8))) w_ (Kx K w.heap.size [some b_179, v_58.ownBlock, some b_1]) v_60 (⟨y_57.2, .none⟩ : Sl (Sl (Int))) ∧ RepV (.sl (.int .u8)) w_ (Kx K w.heap.size [some b_179, v_58.ownBlock, some b_1]) v_154 t_153.1 ∧ Bx (.st (.pair (.int .u16) (.sl (.sl (.int .u8))))) 25 w_ (Kx K w.heap.size [some b_179, v_58.ownBlock, some b_1]) b_1 x0 ∧ Bx (.st (.pair (.int .u16) (.sl (.sl (.int .u8))))) 25 w_ (Kx K w.heap.size [some b_179, v_58.ownBlock, some b_1]) b_179 t_172.1)) ?_ ?_
          · refine wp_block ?_
            refine wp_loop_n (fun m_ a_ w_ => ∃ (c_212 : Int) (c_214 : Int) , St 243 a_ [(20, .int .i64 c_212), (19, .int .i64 c_214), (18, .int .i64 t_207), (16, .pointer (some (⟨b_179, 0, .none⟩ : Addr))), (14, v_154), (6, v_60)] ∧ Wd w w_ [some b_179, v_58.ownBlock, some b_1] ∧ InR .i64 c_212 ∧ InR .i64 c_214 ∧ RepV (.sl (.int .u8)) w_ (Kx K w.heap.size [some b_179, v_58.ownBlock, some b_1]) v_154 t_153.1 ∧ RepV (.sl (.sl (.int .u8))) w_ (Kx K w.heap.size [some b_179, v_58.ownBlock, some b_1]) v_60 (⟨y_57.2, .none⟩ : Sl (Sl (Int))) ∧ Bx (.st (.pair (.int .u16) (.sl (.sl (.int .u8))))) 25 w_ (Kx K w.heap.size [some b_179, v_58.ownBlock, some b_1]) b_1 x0 ∧ Bx (.st (.pair (.int .u16) (.sl (.sl (.int .u8))))) 25 w_ (Kx K w.heap.size [some b_179, v_58.ownBlock, some b_1]) b_179 t_172.1 ∧ p3_l4 n y_57 t_153 t_172 t_207 m_ c_212 c_214 = some y_220) n ?_ ?_
            · skip
              exact ⟨0, 12, ⟨S.sub (by exact ⟨rfl, rfl, rfl, rfl, rfl, rfl, trivial⟩), W, (by decide), (by decide), R_156, R_150, B_2, B_180, ey_220⟩⟩
            · clear S W; rintro m_223 a w_225 ⟨c_212, c_214, S, W, G_213, G_215, R_156, R_150, B_2, B_180, hl_224⟩
              cases m_223 with
              | zero => exact absurd hl_224 (by simp [p3_l4])
              | succ m_223 =>
                refine ⟨m_223, rfl, ?_⟩
                rw [p3_l4] at hl_224
                refine wp_seq ?_
                refine wp_seq ?_
                refine wp_region_lit ?_
                refine wl_pure (l' := [(151, v_60), (150, .int .i64 c_212), (20, .int .i64 c_212), (19, .int .i64 c_214), (18, .int .i64 t_207), (16, .pointer (some (⟨b_179, 0, .none⟩ : Addr))), (14, v_154), (6, v_60)]) S tys tys_ok 2 (by kernel_rfl) ?_
                clear S; intro a S
                refine w_go S rfl (op_len (K := _) S rfl ty23 rfl rfl rfl R_150 ?_)
                clear S; intro a G_226 S
                refine wl_pure (l' := [(153, .bool (decide (c_212 < (lenI (⟨y_57.2, .none⟩ : Sl (Sl (Int))))))), (152, .int .i64 (lenI (⟨y_57.2, .none⟩ : Sl (Sl (Int))))), (151, v_60), (150, .int .i64 c_212), (20, .int .i64 c_212), (19, .int .i64 c_214), (18, .int .i64 t_207), (16, .pointer (some (⟨b_179, 0, .none⟩ : Addr))), (14, v_154), (6, v_60)]) S tys tys_ok 1 (by kernel_rfl) ?_
                clear S; intro a S
                refine wpList_nil ?_
                refine then_n ?_
                replace S := S.sub (l' := [(153, .bool (decide (c_212 < (lenI (⟨y_57.2, .none⟩ : Sl (Sl (Int))))))), (20, .int .i64 c_212), (19, .int .i64 c_214), (18, .int .i64 t_207), (16, .pointer (some (⟨b_179, 0, .none⟩ : Addr))), (14, v_154), (6, v_60)]) (by exact ⟨rfl, rfl, rfl, rfl, rfl, rfl, rfl, trivial⟩)
                refine wp_cond_split (S.eval (show ev _ _ = some (.bool (decide (c_212 < (lenI (⟨y_57.2, .none⟩ : Sl (Sl (Int))))))) from rfl)) ?_ ?_
                · intro hc
                  rw [if_pos hc] at hl_224
                  refine wp_skip ?_
                  refine then_n ?_
                  replace S := S.sub (l' := [(20, .int .i64 c_212), (19, .int .i64 c_214), (18, .int .i64 t_207), (16, .pointer (some (⟨b_179, 0, .none⟩ : Addr))), (14, v_154), (6, v_60)]) (by exact ⟨rfl, rfl, rfl, rfl, rfl, rfl, trivial⟩)
                  refine wp_seq ?_
                  refine wp_block ?_
                  refine wp_seq ?_
                  refine wp_seq ?_
                  obtain ⟨x_227, ex_227, hl_224⟩ := bindS hl_224
                  obtain ⟨x_228, ex_228, hl_224⟩ := bindS hl_224
                  obtain ⟨x_229, ex_229, hl_224⟩ := bindS hl_224
                  obtain ⟨t_230, et_230, hl_224⟩ := bindS hl_224
                  obtain ⟨q_235, eq_235, hl_224⟩ := bindS hl_224
                  obtain ⟨x_237, x_238, x_239, t_240, y_245, HG_236⟩ : ∃ (x_237 : Int) (x_238 : Int) (x_239 : Int) (t_240 : (Int)) (y_245 : Sl (Int)) , ((t_230 != c_214) = false → (ckI .i64 (t_207 + 10)) = some x_237 ∧ (ckI .i64 (4 * c_212)) = some x_238 ∧ (ckI .i64 (x_237 + x_238)) = some x_239 ∧ (p14 n t_153.1 x_239) = some t_240 ∧ (idx (⟨y_57.2, .none⟩ : Sl (Sl (Int))).xs c_212) = some y_245 ∧ (t_240 != (lenI y_245)) = q_235) ∧ (¬ (t_230 != c_214) = false → true = q_235) := by
                    by_cases hc : (t_230 != c_214) = false
                    · rw [if_pos hc] at eq_235
                      obtain ⟨x_237, ex_237, eq_235⟩ := bindS eq_235
                      obtain ⟨x_238, ex_238, eq_235⟩ := bindS eq_235
                      obtain ⟨x_239, ex_239, eq_235⟩ := bindS eq_235
                      obtain ⟨t_240, et_240, eq_235⟩ := bindS eq_235
                      obtain ⟨y_245, ey_245, eq_235⟩ := bindS eq_235
                      exact ⟨x_237, x_238, x_239, t_240, y_245, ⟨fun _ => ⟨ex_237, ex_238, ex_239, et_240, ey_245, Option.some.inj eq_235⟩, fun k_ => absurd hc k_⟩⟩
                    · rw [if_neg hc] at eq_235
                      exact ⟨default, default, default, default, default, ⟨fun k_ => absurd k_ hc, fun _ => Option.some.inj eq_235⟩⟩
                  obtain ⟨q_252, eq_252, hl_224⟩ := bindS hl_224
                  obtain ⟨y_256, x_263, y_264, HG_253⟩ : ∃ (y_256 : Sl (Int)) (x_263 : Int) (y_264 : Sl (Int)) , (q_235 = false → (idx t_172.1.2.xs c_212) = some y_256 ∧ (capO y_256) = some x_263 ∧ (idx (⟨y_57.2, .none⟩ : Sl (Sl (Int))).xs c_212) = some y_264 ∧ (x_263 != (lenI y_264)) = q_252) ∧ (¬ q_235 = false → true = q_252) := by
                    by_cases hc : q_235 = false
                    · rw [if_pos hc] at eq_252
                      obtain ⟨y_256, ey_256, eq_252⟩ := bindS eq_252
                      obtain ⟨x_263, ex_263, eq_252⟩ := bindS eq_252
                      obtain ⟨y_264, ey_264, eq_252⟩ := bindS eq_252
                      exact ⟨y_256, x_263, y_264, ⟨fun _ => ⟨ey_256, ex_263, ey_264, Option.some.inj eq_252⟩, fun k_ => absurd hc k_⟩⟩
                    · rw [if_neg hc] at eq_252
                      exact ⟨default, default, default, ⟨fun k_ => absurd k_ hc, fun _ => Option.some.inj eq_252⟩⟩
                  have hR : Rel (Kx K w.heap.size [some b_179, v_58.ownBlock, some b_1]) Bl := Bl.rel _
                  refine wp_region_all hR [isRep (.sl (.int .u8)) (Kx K w.heap.size [some b_179, v_58.ownBlock, some b_1]) t_153.1, isI .i64 t_207, isI .i64 x_227, isI .i64 c_212, isI .i64 x_228, isI .i64 x_229, isI .i64 t_230, isI .i64 c_214, eqv (.bool (t_230 != c_214)), eqv (.bool (t_230 != c_214)), cndF (t_230 != c_214) false (isRep (.sl (.int .u8)) (Kx K w.heap.size [some b_179, v_58.ownBlock, some b_1]) t_153.1), cndF (t_230 != c_214) false (isI .i64 t_207), cndF (t_230 != c_214) false (isI .i64 x_237), cndF (t_230 != c_214) false (isI .i64 c_212), cndF (t_230 != c_214) false (isI .i64 x_238), cndF (t_230 != c_214) false (isI .i64 x_239), cndF (t_230 != c_214) false (isI .i64 t_240), cndF (t_230 != c_214) false (isRep (.sl (.sl (.int .u8))) (Kx K w.heap.size [some b_179, v_58.ownBlock, some b_1]) (⟨y_57.2, .none⟩ : Sl (Sl (Int)))), cndF (t_230 != c_214) false (isI .i64 c_212), cndF (t_230 != c_214) false (isEl (.sl (.int .u8)) (Kx K w.heap.size [some b_179, v_58.ownBlock, some b_1]) y_245), cndF (t_230 != c_214) false (isRep (.sl (.int .u8)) (Kx K w.heap.size [some b_179, v_58.ownBlock, some b_1]) y_245), cndF (t_230 != c_214) false (isI .i64 (lenI y_245)), cndF (t_230 != c_214) false (eqv (.bool (t_240 != (lenI y_245)))), eqv (.bool q_235), eqv (.bool q_235), cndF q_235 false (eqv (.pointer (some ((⟨b_179, 0, .none⟩ : Addr).add (coff (.pair (.int .u16) (.sl (.sl (.int .u8)))) 1))))), cndF q_235 false (isRep (.sl (.sl (.int .u8))) (Kx K w.heap.size [some b_179, v_58.ownBlock, some b_1]) t_172.1.2), cndF q_235 false (isI .i64 c_212), cndF q_235 false (isEl (.sl (.int .u8)) (Kx K w.heap.size [some b_179, v_58.ownBlock, some b_1]) y_256), cndF q_235 false (isRep (.sl (.int .u8)) (Kx K w.heap.size [some b_179, v_58.ownBlock, some b_1]) y_256), cndF q_235 false (isI .i64 x_263), cndF q_235 false (isRep (.sl (.sl (.int .u8))) (Kx K w.heap.size [some b_179, v_58.ownBlock, some b_1]) (⟨y_57.2, .none⟩ : Sl (Sl (Int)))), cndF q_235 false (isI .i64 c_212), cndF q_235 false (isEl (.sl (.int .u8)) (Kx K w.heap.size [some b_179, v_58.ownBlock, some b_1]) y_264), cndF q_235 false (isRep (.sl (.int .u8)) (Kx K w.heap.size [some b_179, v_58.ownBlock, some b_1]) y_264), cndF q_235 false (isI .i64 (lenI y_264)), cndF q_235 false (eqv (.bool (x_263 != (lenI y_264)))), eqv (.bool q_252)] [[], [], [(1, 157)], [], [(3, 159)], [(2, 158), (4, 160)], [(0, 156), (5, 161)], [], [(6, 162), (7, 163)], [(8, 164)], [(9, 165)], [(9, 165)], [(11, 167), (9, 165)], [(9, 165)], [(13, 169), (9, 165)], [(12, 168), (14, 170), (9, 165)], [(10, 166), (15, 171), (9, 165)], [(9, 165)], [(9, 165)], [(17, 173), (18, 174), (9, 165)], [(19, 175), (9, 165)], [(20, 176), (9, 165)], [(16, 172), (21, 177), (9, 165)], [(9, 165), (22, 178)], [(23, 179)], [(24, 180)], [(25, 181), (24, 180)], [(24, 180)], [(26, 182), (27, 183), (24, 180)], [(28, 184), (24, 180)], [(29, 185), (24, 180)], [(24, 180)], [(24, 180)], [(31, 187), (32, 188), (24, 180)], [(33, 189), (24, 180)], [(34, 190), (24, 180)], [(30, 186), (35, 191), (24, 180)], [(24, 180), (36, 192)]] (by kernel_rfl) (by rw [S.size]; kernel_rfl) (by kernel_rfl) (by kernel_rfl) rfl ⟨(stab_rep hR), stab_I, stab_I, stab_I, stab_I, stab_I, stab_I, stab_I, (stab_eqv _), (stab_eqv _), (stab_cnd (stab_rep hR)), (stab_cnd stab_I), (stab_cnd stab_I), (stab_cnd stab_I), (stab_cnd stab_I), (stab_cnd stab_I), (stab_cnd stab_I), (stab_cnd (stab_rep hR)), (stab_cnd stab_I), (stab_cnd (stab_el hR)), (stab_cnd (stab_rep hR)), (stab_cnd stab_I), (stab_cnd (stab_eqv _)), (stab_eqv _), (stab_eqv _), (stab_cnd (stab_eqv _)), (stab_cnd (stab_rep hR)), (stab_cnd stab_I), (stab_cnd (stab_el hR)), (stab_cnd (stab_rep hR)), (stab_cnd stab_I), (stab_cnd (stab_rep hR)), (stab_cnd stab_I), (stab_cnd (stab_el hR)), (stab_cnd (stab_rep hR)), (stab_cnd stab_I), (stab_cnd (stab_eqv _)), (stab_eqv _), trivial⟩ ?_ ?_
                  ·
                    refine RunAll.cons (isRep (.sl (.int .u8)) (Kx K w.heap.size [some b_179, v_58.ownBlock, some b_1]) t_153.1) [] rfl rfl ?_ ?_
                    · intro W_ hW
                      have S1 := S
                      refine fill_nil S1 ?_; clear S1; intro a_ S1
                      replace R_156 := R_156.step hW
                      have S0 := S.defers; replace S := S1; clear S1
                      refine wl_pure (l' := [(156, v_154), (20, .int .i64 c_212), (19, .int .i64 c_214), (18, .int .i64 t_207), (16, .pointer (some (⟨b_179, 0, .none⟩ : Addr))), (14, v_154), (6, v_60)]) S tys tys_ok 1 (by kernel_rfl) ?_; clear S; intro a S
                      refine wpList_nil ?_
                      exact RPost.mk_ S rfl S0 R_156 (Below.refl _ _)
                    refine RunAll.cons (isI .i64 t_207) [] rfl rfl ?_ ?_
                    · intro W_ hW
                      have S1 := S
                      refine fill_nil S1 ?_; clear S1; intro a_ S1
                      have S0 := S.defers; replace S := S1; clear S1
                      refine wl_pure (l' := [(157, .int .i64 t_207), (20, .int .i64 c_212), (19, .int .i64 c_214), (18, .int .i64 t_207), (16, .pointer (some (⟨b_179, 0, .none⟩ : Addr))), (14, v_154), (6, v_60)]) S tys tys_ok 1 (by kernel_rfl) ?_; clear S; intro a S
                      refine wpList_nil ?_
                      exact RPost.mk_ S rfl S0 ⟨rfl, GR_209⟩ (Below.refl _ _)
                    refine RunAll.cons (isI .i64 x_227) [(isI .i64 t_207, 157)] rfl rfl ?_ ?_
                    · intro W_ hW
                      have S1 := S
                      rintro _ ⟨rfl, hF_271⟩
                      replace S1 := S1.put (by decide : 157 < 243) (.int .i64 t_207)
                      refine fill_nil S1 ?_; clear S1; intro a_ S1
                      have S0 := S.defers; replace S := S1; clear S1
                      refine w_go S rfl (op_arith S .i64 (t_207 + 8) rfl (.inl rfl) rfl rfl rfl rfl ex_227 ?_)
                      clear S; intro a S
                      refine wpList_nil ?_
                      exact RPost.mk_ S rfl S0 ⟨rfl, (ckI_some ex_227).2.1⟩ (Below.refl _ _)
                    refine RunAll.cons (isI .i64 c_212) [] rfl rfl ?_ ?_
                    · intro W_ hW
                      have S1 := S
                      refine fill_nil S1 ?_; clear S1; intro a_ S1
                      have S0 := S.defers; replace S := S1; clear S1
                      refine wl_pure (l' := [(159, .int .i64 c_212), (20, .int .i64 c_212), (19, .int .i64 c_214), (18, .int .i64 t_207), (16, .pointer (some (⟨b_179, 0, .none⟩ : Addr))), (14, v_154), (6, v_60)]) S tys tys_ok 1 (by kernel_rfl) ?_; clear S; intro a S
                      refine wpList_nil ?_
                      exact RPost.mk_ S rfl S0 ⟨rfl, G_213⟩ (Below.refl _ _)
                    refine RunAll.cons (isI .i64 x_228) [(isI .i64 c_212, 159)] rfl rfl ?_ ?_
                    · intro W_ hW
                      have S1 := S
                      rintro _ ⟨rfl, hF_273⟩
                      replace S1 := S1.put (by decide : 159 < 243) (.int .i64 c_212)
                      refine fill_nil S1 ?_; clear S1; intro a_ S1
                      have S0 := S.defers; replace S := S1; clear S1
                      refine w_go S rfl (op_arith S .i64 (4 * c_212) rfl (.inr (.inr rfl)) rfl rfl rfl rfl ex_228 ?_)
                      clear S; intro a S
                      refine wpList_nil ?_
                      exact RPost.mk_ S rfl S0 ⟨rfl, (ckI_some ex_228).2.1⟩ (Below.refl _ _)
                    refine RunAll.cons (isI .i64 x_229) [(isI .i64 x_227, 158), (isI .i64 x_228, 160)] rfl rfl ?_ ?_
                    · intro W_ hW
                      have S1 := S
                      rintro _ ⟨rfl, hF_275⟩
                      replace S1 := S1.put (by decide : 158 < 243) (.int .i64 x_227)
                      rintro _ ⟨rfl, hF_277⟩
                      replace S1 := S1.put (by decide : 160 < 243) (.int .i64 x_228)
                      refine fill_nil S1 ?_; clear S1; intro a_ S1
                      have S0 := S.defers; replace S := S1; clear S1
                      refine w_go S rfl (op_arith S .i64 (x_227 + x_228) rfl (.inl rfl) rfl rfl rfl rfl ex_229 ?_)
                      clear S; intro a S
                      refine wpList_nil ?_
                      exact RPost.mk_ S rfl S0 ⟨rfl, (ckI_some ex_229).2.1⟩ (Below.refl _ _)
                    refine RunAll.cons (isI .i64 t_230) [(isRep (.sl (.int .u8)) (Kx K w.heap.size [some b_179, v_58.ownBlock, some b_1]) t_153.1, 156), (isI .i64 x_229, 161)] rfl rfl ?_ ?_
                    · intro W_ hW
                      have S1 := S
                      intro v_280 hF_279; replace hF_279 : RepV _ _ _ _ _ := hF_279
                      replace S1 := S1.put (by decide : 156 < 243) (v_280)
                      rintro _ ⟨rfl, hF_281⟩
                      replace S1 := S1.put (by decide : 161 < 243) (.int .i64 x_229)
                      refine fill_nil S1 ?_; clear S1; intro a_ S1
                      replace W := W.step hW
                      have S0 := S.defers; replace S := S1; clear S1
                      refine w_go S rfl (op_call (vs := [v_280, .int .i64 x_229]) S rfl cb14 rfl rfl rfl (c14 (Kx K w.heap.size [some b_179, v_58.ownBlock, some b_1]) n W_ t_153.1 _ hF_279 x_229 hF_281 et_230) ?_)
                      rintro _ w_286 ⟨v_283, rfl, R_284, hb_285⟩; refine ⟨_, rfl, ?_⟩
                      replace R_284 := RepV.back R_284 W
                      clear S; intro a S
                      obtain ⟨rfl, GR_284⟩ := RepV.int R_284
                      refine wpList_nil ?_
                      exact RPost.mk_ S rfl S0 ⟨rfl, GR_284⟩ (hb_285)
                    refine RunAll.cons (isI .i64 c_214) [] rfl rfl ?_ ?_
                    · intro W_ hW
                      have S1 := S
                      refine fill_nil S1 ?_; clear S1; intro a_ S1
                      have S0 := S.defers; replace S := S1; clear S1
                      refine wl_pure (l' := [(163, .int .i64 c_214), (20, .int .i64 c_212), (19, .int .i64 c_214), (18, .int .i64 t_207), (16, .pointer (some (⟨b_179, 0, .none⟩ : Addr))), (14, v_154), (6, v_60)]) S tys tys_ok 1 (by kernel_rfl) ?_; clear S; intro a S
                      refine wpList_nil ?_
                      exact RPost.mk_ S rfl S0 ⟨rfl, G_215⟩ (Below.refl _ _)
                    refine RunAll.cons (eqv (.bool (t_230 != c_214))) [(isI .i64 t_230, 162), (isI .i64 c_214, 163)] rfl rfl ?_ ?_
                    · intro W_ hW
                      have S1 := S
                      rintro _ ⟨rfl, hF_287⟩
                      replace S1 := S1.put (by decide : 162 < 243) (.int .i64 t_230)
                      rintro _ ⟨rfl, hF_289⟩
                      replace S1 := S1.put (by decide : 163 < 243) (.int .i64 c_214)
                      refine fill_nil S1 ?_; clear S1; intro a_ S1
                      have S0 := S.defers; replace S := S1; clear S1
                      refine wl_pure (l' := [(164, .bool (t_230 != c_214)), (163, .int .i64 c_214), (162, .int .i64 t_230), (20, .int .i64 c_212), (19, .int .i64 c_214), (18, .int .i64 t_207), (16, .pointer (some (⟨b_179, 0, .none⟩ : Addr))), (14, v_154), (6, v_60)]) S tys tys_ok 1 (by kernel_rfl) ?_; clear S; intro a S
                      refine wpList_nil ?_
                      exact RPost.mk_ S rfl S0 rfl (Below.refl _ _)
                    refine RunAll.cons (eqv (.bool (t_230 != c_214))) [(eqv (.bool (t_230 != c_214)), 164)] rfl rfl ?_ ?_
                    · intro W_ hW
                      have S1 := S
                      intro v_292 hF_291; obtain rfl : .bool (t_230 != c_214) = v_292 := Eq.symm hF_291
                      replace S1 := S1.put (by decide : 164 < 243) (.bool (t_230 != c_214))
                      refine fill_nil S1 ?_; clear S1; intro a_ S1
                      have S0 := S.defers; replace S := S1; clear S1
                      refine wl_pure (l' := [(165, .bool (t_230 != c_214)), (164, .bool (t_230 != c_214)), (20, .int .i64 c_212), (19, .int .i64 c_214), (18, .int .i64 t_207), (16, .pointer (some (⟨b_179, 0, .none⟩ : Addr))), (14, v_154), (6, v_60)]) S tys tys_ok 1 (by kernel_rfl) ?_; clear S; intro a S
                      refine wpList_nil ?_
                      exact RPost.mk_ S rfl S0 rfl (Below.refl _ _)
                    refine RunAll.cons (cndF (t_230 != c_214) false (isRep (.sl (.int .u8)) (Kx K w.heap.size [some b_179, v_58.ownBlock, some b_1]) t_153.1)) [(eqv (.bool (t_230 != c_214)), 165)] rfl rfl ?_ ?_
                    · intro W_ hW
                      by_cases hc0 : (t_230 != c_214) = false
                      · have hl0 : (t_230 != c_214) = false := hc0
                        have S1 := S
                        intro v_294 hF_293; obtain rfl : .bool (t_230 != c_214) = v_294 := Eq.symm hF_293
                        replace S1 := S1.put (by decide : 165 < 243) (.bool (t_230 != c_214))
                        refine fill_nil S1 ?_; clear S1; intro a_ S1
                        replace R_156 := R_156.step hW
                        rw [show (t_230 != c_214) = false from hl0] at S1
                        have S0 := S.defers; replace S := S1; clear S1
                        refine wl_pure (l' := [(166, v_154), (165, .bool false), (20, .int .i64 c_212), (19, .int .i64 c_214), (18, .int .i64 t_207), (16, .pointer (some (⟨b_179, 0, .none⟩ : Addr))), (14, v_154), (6, v_60)]) S tys tys_ok 1 (by kernel_rfl) ?_; clear S; intro a S
                        refine wpList_nil ?_
                        exact RPost.mk_ S rfl S0 ⟨fun _ => R_156, fun k_ => absurd hc0 k_⟩ (Below.refl _ _)
                      · have hl0 : (t_230 != c_214) = true := (by simpa using hc0)
                        have S1 := S
                        intro v_296 hF_295; obtain rfl : .bool (t_230 != c_214) = v_296 := Eq.symm hF_295
                        replace S1 := S1.put (by decide : 165 < 243) (.bool (t_230 != c_214))
                        refine fill_nil S1 ?_; clear S1; intro a_ S1
                        rw [show (t_230 != c_214) = true from hl0] at S1
                        have S0 := S.defers; replace S := S1; clear S1
                        refine wl_pure (l' := [(166, undef), (165, .bool true), (20, .int .i64 c_212), (19, .int .i64 c_214), (18, .int .i64 t_207), (16, .pointer (some (⟨b_179, 0, .none⟩ : Addr))), (14, v_154), (6, v_60)]) S tys tys_ok 1 (by kernel_rfl) ?_; clear S; intro a S
                        refine wpList_nil ?_
                        exact RPost.mk_ S rfl S0 ⟨fun k_ => absurd k_ hc0, fun _ => rfl⟩ (Below.refl _ _)
                    refine RunAll.cons (cndF (t_230 != c_214) false (isI .i64 t_207)) [(eqv (.bool (t_230 != c_214)), 165)] rfl rfl ?_ ?_
                    · intro W_ hW
                      by_cases hc0 : (t_230 != c_214) = false
                      · have hl0 : (t_230 != c_214) = false := hc0
                        have S1 := S
                        intro v_298 hF_297; obtain rfl : .bool (t_230 != c_214) = v_298 := Eq.symm hF_297
                        replace S1 := S1.put (by decide : 165 < 243) (.bool (t_230 != c_214))
                        refine fill_nil S1 ?_; clear S1; intro a_ S1
                        rw [show (t_230 != c_214) = false from hl0] at S1
                        have S0 := S.defers; replace S := S1; clear S1
                        refine wl_pure (l' := [(167, .int .i64 t_207), (165, .bool false), (20, .int .i64 c_212), (19, .int .i64 c_214), (18, .int .i64 t_207), (16, .pointer (some (⟨b_179, 0, .none⟩ : Addr))), (14, v_154), (6, v_60)]) S tys tys_ok 1 (by kernel_rfl) ?_; clear S; intro a S
                        refine wpList_nil ?_
                        exact RPost.mk_ S rfl S0 ⟨fun _ => ⟨rfl, GR_209⟩, fun k_ => absurd hc0 k_⟩ (Below.refl _ _)
                      · have hl0 : (t_230 != c_214) = true := (by simpa using hc0)
                        have S1 := S
                        intro v_300 hF_299; obtain rfl : .bool (t_230 != c_214) = v_300 := Eq.symm hF_299
                        replace S1 := S1.put (by decide : 165 < 243) (.bool (t_230 != c_214))
                        refine fill_nil S1 ?_; clear S1; intro a_ S1
                        rw [show (t_230 != c_214) = true from hl0] at S1
                        have S0 := S.defers; replace S := S1; clear S1
                        refine wl_pure (l' := [(167, undef), (165, .bool true), (20, .int .i64 c_212), (19, .int .i64 c_214), (18, .int .i64 t_207), (16, .pointer (some (⟨b_179, 0, .none⟩ : Addr))), (14, v_154), (6, v_60)]) S tys tys_ok 1 (by kernel_rfl) ?_; clear S; intro a S
                        refine wpList_nil ?_
                        exact RPost.mk_ S rfl S0 ⟨fun k_ => absurd k_ hc0, fun _ => rfl⟩ (Below.refl _ _)
                    refine RunAll.cons (cndF (t_230 != c_214) false (isI .i64 x_237)) [(cndF (t_230 != c_214) false (isI .i64 t_207), 167), (eqv (.bool (t_230 != c_214)), 165)] rfl rfl ?_ ?_
                    · intro W_ hW
                      by_cases hc0 : (t_230 != c_214) = false
                      · have hl0 : (t_230 != c_214) = false := hc0
                        have S1 := S
                        intro v_301 hF_302
                        replace hF_302 := cndF.pos hF_302 hc0
                        revert hF_302
                        revert v_301
                        rintro _ ⟨rfl, hF_303⟩
                        replace S1 := S1.put (by decide : 167 < 243) (.int .i64 t_207)
                        intro v_306 hF_305; obtain rfl : .bool (t_230 != c_214) = v_306 := Eq.symm hF_305
                        replace S1 := S1.put (by decide : 165 < 243) (.bool (t_230 != c_214))
                        refine fill_nil S1 ?_; clear S1; intro a_ S1
                        rw [show (t_230 != c_214) = false from hl0] at S1
                        have S0 := S.defers; replace S := S1; clear S1
                        obtain ⟨ex_237, ex_238, ex_239, et_240, ey_245, _⟩ := (HG_236).1 hc0
                        refine w_go S rfl (op_arith S .i64 (t_207 + 10) rfl (.inl rfl) rfl rfl rfl rfl ex_237 ?_)
                        clear S; intro a S
                        refine wpList_nil ?_
                        exact RPost.mk_ S rfl S0 ⟨fun _ => ⟨rfl, (ckI_some ex_237).2.1⟩, fun k_ => absurd hc0 k_⟩ (Below.refl _ _)
                      · have hl0 : (t_230 != c_214) = true := (by simpa using hc0)
                        have S1 := S
                        intro v_307 hF_308
                        obtain rfl := cndF.neg hF_308 hc0
                        replace S1 := S1.put (by decide : 167 < 243) (undef)
                        intro v_310 hF_309; obtain rfl : .bool (t_230 != c_214) = v_310 := Eq.symm hF_309
                        replace S1 := S1.put (by decide : 165 < 243) (.bool (t_230 != c_214))
                        refine fill_nil S1 ?_; clear S1; intro a_ S1
                        rw [show (t_230 != c_214) = true from hl0] at S1
                        have S0 := S.defers; replace S := S1; clear S1
                        refine wl_pure (l' := [(168, undef), (165, .bool true), (167, undef), (20, .int .i64 c_212), (19, .int .i64 c_214), (18, .int .i64 t_207), (16, .pointer (some (⟨b_179, 0, .none⟩ : Addr))), (14, v_154), (6, v_60)]) S tys tys_ok 1 (by kernel_rfl) ?_; clear S; intro a S
                        refine wpList_nil ?_
                        exact RPost.mk_ S rfl S0 ⟨fun k_ => absurd k_ hc0, fun _ => rfl⟩ (Below.refl _ _)
                    refine RunAll.cons (cndF (t_230 != c_214) false (isI .i64 c_212)) [(eqv (.bool (t_230 != c_214)), 165)] rfl rfl ?_ ?_
                    · intro W_ hW
                      by_cases hc0 : (t_230 != c_214) = false
                      · have hl0 : (t_230 != c_214) = false := hc0
                        have S1 := S
                        intro v_312 hF_311; obtain rfl : .bool (t_230 != c_214) = v_312 := Eq.symm hF_311
                        replace S1 := S1.put (by decide : 165 < 243) (.bool (t_230 != c_214))
                        refine fill_nil S1 ?_; clear S1; intro a_ S1
                        rw [show (t_230 != c_214) = false from hl0] at S1
                        have S0 := S.defers; replace S := S1; clear S1
                        refine wl_pure (l' := [(169, .int .i64 c_212), (165, .bool false), (20, .int .i64 c_212), (19, .int .i64 c_214), (18, .int .i64 t_207), (16, .pointer (some (⟨b_179, 0, .none⟩ : Addr))), (14, v_154), (6, v_60)]) S tys tys_ok 1 (by kernel_rfl) ?_; clear S; intro a S
                        refine wpList_nil ?_
                        exact RPost.mk_ S rfl S0 ⟨fun _ => ⟨rfl, G_213⟩, fun k_ => absurd hc0 k_⟩ (Below.refl _ _)
                      · have hl0 : (t_230 != c_214) = true := (by simpa using hc0)
                        have S1 := S
                        intro v_314 hF_313; obtain rfl : .bool (t_230 != c_214) = v_314 := Eq.symm hF_313
                        replace S1 := S1.put (by decide : 165 < 243) (.bool (t_230 != c_214))
                        refine fill_nil S1 ?_; clear S1; intro a_ S1
                        rw [show (t_230 != c_214) = true from hl0] at S1
                        have S0 := S.defers; replace S := S1; clear S1
                        refine wl_pure (l' := [(169, undef), (165, .bool true), (20, .int .i64 c_212), (19, .int .i64 c_214), (18, .int .i64 t_207), (16, .pointer (some (⟨b_179, 0, .none⟩ : Addr))), (14, v_154), (6, v_60)]) S tys tys_ok 1 (by kernel_rfl) ?_; clear S; intro a S
                        refine wpList_nil ?_
                        exact RPost.mk_ S rfl S0 ⟨fun k_ => absurd k_ hc0, fun _ => rfl⟩ (Below.refl _ _)
                    refine RunAll.cons (cndF (t_230 != c_214) false (isI .i64 x_238)) [(cndF (t_230 != c_214) false (isI .i64 c_212), 169), (eqv (.bool (t_230 != c_214)), 165)] rfl rfl ?_ ?_
                    · intro W_ hW
                      by_cases hc0 : (t_230 != c_214) = false
                      · have hl0 : (t_230 != c_214) = false := hc0
                        have S1 := S
                        intro v_315 hF_316
                        replace hF_316 := cndF.pos hF_316 hc0
                        revert hF_316
                        revert v_315
                        rintro _ ⟨rfl, hF_317⟩
                        replace S1 := S1.put (by decide : 169 < 243) (.int .i64 c_212)
                        intro v_320 hF_319; obtain rfl : .bool (t_230 != c_214) = v_320 := Eq.symm hF_319
                        replace S1 := S1.put (by decide : 165 < 243) (.bool (t_230 != c_214))
                        refine fill_nil S1 ?_; clear S1; intro a_ S1
                        rw [show (t_230 != c_214) = false from hl0] at S1
                        have S0 := S.defers; replace S := S1; clear S1
                        obtain ⟨ex_237, ex_238, ex_239, et_240, ey_245, _⟩ := (HG_236).1 hc0
                        refine w_go S rfl (op_arith S .i64 (4 * c_212) rfl (.inr (.inr rfl)) rfl rfl rfl rfl ex_238 ?_)
                        clear S; intro a S
                        refine wpList_nil ?_
                        exact RPost.mk_ S rfl S0 ⟨fun _ => ⟨rfl, (ckI_some ex_238).2.1⟩, fun k_ => absurd hc0 k_⟩ (Below.refl _ _)
                      · have hl0 : (t_230 != c_214) = true := (by simpa using hc0)
                        have S1 := S
                        intro v_321 hF_322
                        obtain rfl := cndF.neg hF_322 hc0
                        replace S1 := S1.put (by decide : 169 < 243) (undef)
                        intro v_324 hF_323; obtain rfl : .bool (t_230 != c_214) = v_324 := Eq.symm hF_323
                        replace S1 := S1.put (by decide : 165 < 243) (.bool (t_230 != c_214))
                        refine fill_nil S1 ?_; clear S1; intro a_ S1
                        rw [show (t_230 != c_214) = true from hl0] at S1
                        have S0 := S.defers; replace S := S1; clear S1
                        refine wl_pure (l' := [(170, undef), (165, .bool true), (169, undef), (20, .int .i64 c_212), (19, .int .i64 c_214), (18, .int .i64 t_207), (16, .pointer (some (⟨b_179, 0, .none⟩ : Addr))), (14, v_154), (6, v_60)]) S tys tys_ok 1 (by kernel_rfl) ?_; clear S; intro a S
                        refine wpList_nil ?_
                        exact RPost.mk_ S rfl S0 ⟨fun k_ => absurd k_ hc0, fun _ => rfl⟩ (Below.refl _ _)
                    refine RunAll.cons (cndF (t_230 != c_214) false (isI .i64 x_239)) [(cndF (t_230 != c_214) false (isI .i64 x_237), 168), (cndF (t_230 != c_214) false (isI .i64 x_238), 170), (eqv (.bool (t_230 != c_214)), 165)] rfl rfl ?_ ?_
                    · intro W_ hW
                      by_cases hc0 : (t_230 != c_214) = false
                      · have hl0 : (t_230 != c_214) = false := hc0
                        have S1 := S
                        intro v_325 hF_326
                        replace hF_326 := cndF.pos hF_326 hc0
                        revert hF_326
                        revert v_325
                        rintro _ ⟨rfl, hF_327⟩
                        replace S1 := S1.put (by decide : 168 < 243) (.int .i64 x_237)
                        intro v_329 hF_330
                        replace hF_330 := cndF.pos hF_330 hc0
                        revert hF_330
                        revert v_329
                        rintro _ ⟨rfl, hF_331⟩
                        replace S1 := S1.put (by decide : 170 < 243) (.int .i64 x_238)
                        intro v_334 hF_333; obtain rfl : .bool (t_230 != c_214) = v_334 := Eq.symm hF_333
                        replace S1 := S1.put (by decide : 165 < 243) (.bool (t_230 != c_214))
                        refine fill_nil S1 ?_; clear S1; intro a_ S1
                        rw [show (t_230 != c_214) = false from hl0] at S1
                        have S0 := S.defers; replace S := S1; clear S1
                        obtain ⟨ex_237, ex_238, ex_239, et_240, ey_245, _⟩ := (HG_236).1 hc0
                        refine w_go S rfl (op_arith S .i64 (x_237 + x_238) rfl (.inl rfl) rfl rfl rfl rfl ex_239 ?_)
                        clear S; intro a S
                        refine wpList_nil ?_
                        exact RPost.mk_ S rfl S0 ⟨fun _ => ⟨rfl, (ckI_some ex_239).2.1⟩, fun k_ => absurd hc0 k_⟩ (Below.refl _ _)
                      · have hl0 : (t_230 != c_214) = true := (by simpa using hc0)
                        have S1 := S
                        intro v_335 hF_336
                        obtain rfl := cndF.neg hF_336 hc0
                        replace S1 := S1.put (by decide : 168 < 243) (undef)
                        intro v_337 hF_338
                        obtain rfl := cndF.neg hF_338 hc0
                        replace S1 := S1.put (by decide : 170 < 243) (undef)
                        intro v_340 hF_339; obtain rfl : .bool (t_230 != c_214) = v_340 := Eq.symm hF_339
                        replace S1 := S1.put (by decide : 165 < 243) (.bool (t_230 != c_214))
                        refine fill_nil S1 ?_; clear S1; intro a_ S1
                        rw [show (t_230 != c_214) = true from hl0] at S1
                        have S0 := S.defers; replace S := S1; clear S1
                        refine wl_pure (l' := [(171, undef), (165, .bool true), (170, undef), (168, undef), (20, .int .i64 c_212), (19, .int .i64 c_214), (18, .int .i64 t_207), (16, .pointer (some (⟨b_179, 0, .none⟩ : Addr))), (14, v_154), (6, v_60)]) S tys tys_ok 1 (by kernel_rfl) ?_; clear S; intro a S
                        refine wpList_nil ?_
                        exact RPost.mk_ S rfl S0 ⟨fun k_ => absurd k_ hc0, fun _ => rfl⟩ (Below.refl _ _)
                    refine RunAll.cons (cndF (t_230 != c_214) false (isI .i64 t_240)) [(cndF (t_230 != c_214) false (isRep (.sl (.int .u8)) (Kx K w.heap.size [some b_179, v_58.ownBlock, some b_1]) t_153.1), 166), (cndF (t_230 != c_214) false (isI .i64 x_239), 171), (eqv (.bool (t_230 != c_214)), 165)] rfl rfl ?_ ?_
                    · intro W_ hW
                      by_cases hc0 : (t_230 != c_214) = false
                      · have hl0 : (t_230 != c_214) = false := hc0
                        have S1 := S
                        intro v_341 hF_342
                        replace hF_342 := cndF.pos hF_342 hc0
                        revert hF_342
                        revert v_341
                        intro v_344 hF_343; replace hF_343 : RepV _ _ _ _ _ := hF_343
                        replace S1 := S1.put (by decide : 166 < 243) (v_344)
                        intro v_345 hF_346
                        replace hF_346 := cndF.pos hF_346 hc0
                        revert hF_346
                        revert v_345
                        rintro _ ⟨rfl, hF_347⟩
                        replace S1 := S1.put (by decide : 171 < 243) (.int .i64 x_239)
                        intro v_350 hF_349; obtain rfl : .bool (t_230 != c_214) = v_350 := Eq.symm hF_349
                        replace S1 := S1.put (by decide : 165 < 243) (.bool (t_230 != c_214))
                        refine fill_nil S1 ?_; clear S1; intro a_ S1
                        replace W := W.step hW
                        rw [show (t_230 != c_214) = false from hl0] at S1
                        have S0 := S.defers; replace S := S1; clear S1
                        obtain ⟨ex_237, ex_238, ex_239, et_240, ey_245, _⟩ := (HG_236).1 hc0
                        refine w_go S rfl (op_call (vs := [v_344, .int .i64 x_239]) S rfl cb14 rfl rfl rfl (c14 (Kx K w.heap.size [some b_179, v_58.ownBlock, some b_1]) n W_ t_153.1 _ hF_343 x_239 hF_347 et_240) ?_)
                        rintro _ w_354 ⟨v_351, rfl, R_352, hb_353⟩; refine ⟨_, rfl, ?_⟩
                        replace R_352 := RepV.back R_352 W
                        clear S; intro a S
                        obtain ⟨rfl, GR_352⟩ := RepV.int R_352
                        refine wpList_nil ?_
                        exact RPost.mk_ S rfl S0 ⟨fun _ => ⟨rfl, GR_352⟩, fun k_ => absurd hc0 k_⟩ (hb_353)
                      · have hl0 : (t_230 != c_214) = true := (by simpa using hc0)
                        have S1 := S
                        intro v_355 hF_356
                        obtain rfl := cndF.neg hF_356 hc0
                        replace S1 := S1.put (by decide : 166 < 243) (undef)
                        intro v_357 hF_358
                        obtain rfl := cndF.neg hF_358 hc0
                        replace S1 := S1.put (by decide : 171 < 243) (undef)
                        intro v_360 hF_359; obtain rfl : .bool (t_230 != c_214) = v_360 := Eq.symm hF_359
                        replace S1 := S1.put (by decide : 165 < 243) (.bool (t_230 != c_214))
                        refine fill_nil S1 ?_; clear S1; intro a_ S1
                        rw [show (t_230 != c_214) = true from hl0] at S1
                        have S0 := S.defers; replace S := S1; clear S1
                        refine wl_pure (l' := [(172, undef), (165, .bool true), (171, undef), (166, undef), (20, .int .i64 c_212), (19, .int .i64 c_214), (18, .int .i64 t_207), (16, .pointer (some (⟨b_179, 0, .none⟩ : Addr))), (14, v_154), (6, v_60)]) S tys tys_ok 1 (by kernel_rfl) ?_; clear S; intro a S
                        refine wpList_nil ?_
                        exact RPost.mk_ S rfl S0 ⟨fun k_ => absurd k_ hc0, fun _ => rfl⟩ (Below.refl _ _)
                    refine RunAll.cons (cndF (t_230 != c_214) false (isRep (.sl (.sl (.int .u8))) (Kx K w.heap.size [some b_179, v_58.ownBlock, some b_1]) (⟨y_57.2, .none⟩ : Sl (Sl (Int))))) [(eqv (.bool (t_230 != c_214)), 165)] rfl rfl ?_ ?_
                    · intro W_ hW
                      by_cases hc0 : (t_230 != c_214) = false
                      · have hl0 : (t_230 != c_214) = false := hc0
                        have S1 := S
                        intro v_362 hF_361; obtain rfl : .bool (t_230 != c_214) = v_362 := Eq.symm hF_361
                        replace S1 := S1.put (by decide : 165 < 243) (.bool (t_230 != c_214))
                        refine fill_nil S1 ?_; clear S1; intro a_ S1
                        replace R_150 := R_150.step hW
                        rw [show (t_230 != c_214) = false from hl0] at S1
                        have S0 := S.defers; replace S := S1; clear S1
                        refine wl_pure (l' := [(173, v_60), (165, .bool false), (20, .int .i64 c_212), (19, .int .i64 c_214), (18, .int .i64 t_207), (16, .pointer (some (⟨b_179, 0, .none⟩ : Addr))), (14, v_154), (6, v_60)]) S tys tys_ok 1 (by kernel_rfl) ?_; clear S; intro a S
                        refine wpList_nil ?_
                        exact RPost.mk_ S rfl S0 ⟨fun _ => R_150, fun k_ => absurd hc0 k_⟩ (Below.refl _ _)
                      · have hl0 : (t_230 != c_214) = true := (by simpa using hc0)
                        have S1 := S
                        intro v_364 hF_363; obtain rfl : .bool (t_230 != c_214) = v_364 := Eq.symm hF_363
                        replace S1 := S1.put (by decide : 165 < 243) (.bool (t_230 != c_214))
                        refine fill_nil S1 ?_; clear S1; intro a_ S1
                        rw [show (t_230 != c_214) = true from hl0] at S1
                        have S0 := S.defers; replace S := S1; clear S1
                        refine wl_pure (l' := [(173, undef), (165, .bool true), (20, .int .i64 c_212), (19, .int .i64 c_214), (18, .int .i64 t_207), (16, .pointer (some (⟨b_179, 0, .none⟩ : Addr))), (14, v_154), (6, v_60)]) S tys tys_ok 1 (by kernel_rfl) ?_; clear S; intro a S
                        refine wpList_nil ?_
                        exact RPost.mk_ S rfl S0 ⟨fun k_ => absurd k_ hc0, fun _ => rfl⟩ (Below.refl _ _)
                    refine RunAll.cons (cndF (t_230 != c_214) false (isI .i64 c_212)) [(eqv (.bool (t_230 != c_214)), 165)] rfl rfl ?_ ?_
                    · intro W_ hW
                      by_cases hc0 : (t_230 != c_214) = false
                      · have hl0 : (t_230 != c_214) = false := hc0
                        have S1 := S
                        intro v_366 hF_365; obtain rfl : .bool (t_230 != c_214) = v_366 := Eq.symm hF_365
                        replace S1 := S1.put (by decide : 165 < 243) (.bool (t_230 != c_214))
                        refine fill_nil S1 ?_; clear S1; intro a_ S1
                        rw [show (t_230 != c_214) = false from hl0] at S1
                        have S0 := S.defers; replace S := S1; clear S1
                        refine wl_pure (l' := [(174, .int .i64 c_212), (165, .bool false), (20, .int .i64 c_212), (19, .int .i64 c_214), (18, .int .i64 t_207), (16, .pointer (some (⟨b_179, 0, .none⟩ : Addr))), (14, v_154), (6, v_60)]) S tys tys_ok 1 (by kernel_rfl) ?_; clear S; intro a S
                        refine wpList_nil ?_
                        exact RPost.mk_ S rfl S0 ⟨fun _ => ⟨rfl, G_213⟩, fun k_ => absurd hc0 k_⟩ (Below.refl _ _)
                      · have hl0 : (t_230 != c_214) = true := (by simpa using hc0)
                        have S1 := S
                        intro v_368 hF_367; obtain rfl : .bool (t_230 != c_214) = v_368 := Eq.symm hF_367
                        replace S1 := S1.put (by decide : 165 < 243) (.bool (t_230 != c_214))
                        refine fill_nil S1 ?_; clear S1; intro a_ S1
                        rw [show (t_230 != c_214) = true from hl0] at S1
                        have S0 := S.defers; replace S := S1; clear S1
                        refine wl_pure (l' := [(174, undef), (165, .bool true), (20, .int .i64 c_212), (19, .int .i64 c_214), (18, .int .i64 t_207), (16, .pointer (some (⟨b_179, 0, .none⟩ : Addr))), (14, v_154), (6, v_60)]) S tys tys_ok 1 (by kernel_rfl) ?_; clear S; intro a S
                        refine wpList_nil ?_
                        exact RPost.mk_ S rfl S0 ⟨fun k_ => absurd k_ hc0, fun _ => rfl⟩ (Below.refl _ _)
                    refine RunAll.cons (cndF (t_230 != c_214) false (isEl (.sl (.int .u8)) (Kx K w.heap.size [some b_179, v_58.ownBlock, some b_1]) y_245)) [(cndF (t_230 != c_214) false (isRep (.sl (.sl (.int .u8))) (Kx K w.heap.size [some b_179, v_58.ownBlock, some b_1]) (⟨y_57.2, .none⟩ : Sl (Sl (Int)))), 173), (cndF (t_230 != c_214) false (isI .i64 c_212), 174), (eqv (.bool (t_230 != c_214)), 165)] rfl rfl ?_ ?_
                    · intro W_ hW
                      by_cases hc0 : (t_230 != c_214) = false
                      · have hl0 : (t_230 != c_214) = false := hc0
                        have S1 := S
                        intro v_369 hF_370
                        replace hF_370 := cndF.pos hF_370 hc0
                        revert hF_370
                        revert v_369
                        intro v_372 hF_371; replace hF_371 : RepV _ _ _ _ _ := hF_371
                        replace S1 := S1.put (by decide : 173 < 243) (v_372)
                        intro v_373 hF_374
                        replace hF_374 := cndF.pos hF_374 hc0
                        revert hF_374
                        revert v_373
                        rintro _ ⟨rfl, hF_375⟩
                        replace S1 := S1.put (by decide : 174 < 243) (.int .i64 c_212)
                        intro v_378 hF_377; obtain rfl : .bool (t_230 != c_214) = v_378 := Eq.symm hF_377
                        replace S1 := S1.put (by decide : 165 < 243) (.bool (t_230 != c_214))
                        refine fill_nil S1 ?_; clear S1; intro a_ S1
                        replace W := W.step hW
                        rw [show (t_230 != c_214) = false from hl0] at S1
                        have S0 := S.defers; replace S := S1; clear S1
                        obtain ⟨ex_237, ex_238, ex_239, et_240, ey_245, _⟩ := (HG_236).1 hc0
                        refine w_go S rfl (op_indexAddr S rfl ty23 rfl rfl rfl hF_371 rfl ey_245 ?_)
                        clear S; intro a p_379 R_380 H_381 S
                        refine wpList_nil ?_
                        exact RPost.mk_ S rfl S0 ⟨fun _ => ⟨_, rfl, R_380, H_381⟩, fun k_ => absurd hc0 k_⟩ (Below.refl _ _)
                      · have hl0 : (t_230 != c_214) = true := (by simpa using hc0)
                        have S1 := S
                        intro v_382 hF_383
                        obtain rfl := cndF.neg hF_383 hc0
                        replace S1 := S1.put (by decide : 173 < 243) (undef)
                        intro v_384 hF_385
                        obtain rfl := cndF.neg hF_385 hc0
                        replace S1 := S1.put (by decide : 174 < 243) (undef)
                        intro v_387 hF_386; obtain rfl : .bool (t_230 != c_214) = v_387 := Eq.symm hF_386
                        replace S1 := S1.put (by decide : 165 < 243) (.bool (t_230 != c_214))
                        refine fill_nil S1 ?_; clear S1; intro a_ S1
                        rw [show (t_230 != c_214) = true from hl0] at S1
                        have S0 := S.defers; replace S := S1; clear S1
                        refine wl_pure (l' := [(175, undef), (165, .bool true), (174, undef), (173, undef), (20, .int .i64 c_212), (19, .int .i64 c_214), (18, .int .i64 t_207), (16, .pointer (some (⟨b_179, 0, .none⟩ : Addr))), (14, v_154), (6, v_60)]) S tys tys_ok 1 (by kernel_rfl) ?_; clear S; intro a S
                        refine wpList_nil ?_
                        exact RPost.mk_ S rfl S0 ⟨fun k_ => absurd k_ hc0, fun _ => rfl⟩ (Below.refl _ _)
                    refine RunAll.cons (cndF (t_230 != c_214) false (isRep (.sl (.int .u8)) (Kx K w.heap.size [some b_179, v_58.ownBlock, some b_1]) y_245)) [(cndF (t_230 != c_214) false (isEl (.sl (.int .u8)) (Kx K w.heap.size [some b_179, v_58.ownBlock, some b_1]) y_245), 175), (eqv (.bool (t_230 != c_214)), 165)] rfl rfl ?_ ?_
                    · intro W_ hW
                      by_cases hc0 : (t_230 != c_214) = false
                      · have hl0 : (t_230 != c_214) = false := hc0
                        have S1 := S
                        intro v_388 hF_389
                        replace hF_389 := cndF.pos hF_389 hc0
                        revert hF_389
                        revert v_388
                        rintro _ ⟨p_392, rfl, R_393, H_394⟩
                        replace S1 := S1.put (by decide : 175 < 243) (.pointer (some p_392))
                        intro v_396 hF_395; obtain rfl : .bool (t_230 != c_214) = v_396 := Eq.symm hF_395
                        replace S1 := S1.put (by decide : 165 < 243) (.bool (t_230 != c_214))
                        refine fill_nil S1 ?_; clear S1; intro a_ S1
                        rw [show (t_230 != c_214) = false from hl0] at S1
                        have S0 := S.defers; replace S := S1; clear S1
                        obtain ⟨ex_237, ex_238, ex_239, et_240, ey_245, _⟩ := (HG_236).1 hc0
                        refine w_go S rfl (op_load (t := (.sl (.int .u8))) (x := y_245) S rfl ty28 rfl rfl rfl R_393 ?_)
                        clear S; intro a v_397 R_398 S
                        refine wpList_nil ?_
                        exact RPost.mk_ S rfl S0 ⟨fun _ => R_398, fun k_ => absurd hc0 k_⟩ (Below.refl _ _)
                      · have hl0 : (t_230 != c_214) = true := (by simpa using hc0)
                        have S1 := S
                        intro v_399 hF_400
                        obtain rfl := cndF.neg hF_400 hc0
                        replace S1 := S1.put (by decide : 175 < 243) (undef)
                        intro v_402 hF_401; obtain rfl : .bool (t_230 != c_214) = v_402 := Eq.symm hF_401
                        replace S1 := S1.put (by decide : 165 < 243) (.bool (t_230 != c_214))
                        refine fill_nil S1 ?_; clear S1; intro a_ S1
                        rw [show (t_230 != c_214) = true from hl0] at S1
                        have S0 := S.defers; replace S := S1; clear S1
                        refine wl_pure (l' := [(176, undef), (165, .bool true), (175, undef), (20, .int .i64 c_212), (19, .int .i64 c_214), (18, .int .i64 t_207), (16, .pointer (some (⟨b_179, 0, .none⟩ : Addr))), (14, v_154), (6, v_60)]) S tys tys_ok 1 (by kernel_rfl) ?_; clear S; intro a S
                        refine wpList_nil ?_
                        exact RPost.mk_ S rfl S0 ⟨fun k_ => absurd k_ hc0, fun _ => rfl⟩ (Below.refl _ _)
                    refine RunAll.cons (cndF (t_230 != c_214) false (isI .i64 (lenI y_245))) [(cndF (t_230 != c_214) false (isRep (.sl (.int .u8)) (Kx K w.heap.size [some b_179, v_58.ownBlock, some b_1]) y_245), 176), (eqv (.bool (t_230 != c_214)), 165)] rfl rfl ?_ ?_
                    · intro W_ hW
                      by_cases hc0 : (t_230 != c_214) = false
                      · have hl0 : (t_230 != c_214) = false := hc0
                        have S1 := S
                        intro v_403 hF_404
                        replace hF_404 := cndF.pos hF_404 hc0
                        revert hF_404
                        revert v_403
                        intro v_406 hF_405; replace hF_405 : RepV _ _ _ _ _ := hF_405
                        replace S1 := S1.put (by decide : 176 < 243) (v_406)
                        intro v_408 hF_407; obtain rfl : .bool (t_230 != c_214) = v_408 := Eq.symm hF_407
                        replace S1 := S1.put (by decide : 165 < 243) (.bool (t_230 != c_214))
                        refine fill_nil S1 ?_; clear S1; intro a_ S1
                        replace W := W.step hW
                        rw [show (t_230 != c_214) = false from hl0] at S1
                        have S0 := S.defers; replace S := S1; clear S1
                        obtain ⟨ex_237, ex_238, ex_239, et_240, ey_245, _⟩ := (HG_236).1 hc0
                        refine w_go S rfl (op_len (K := _) S rfl ty28 rfl rfl rfl hF_405 ?_)
                        clear S; intro a G_409 S
                        refine wpList_nil ?_
                        exact RPost.mk_ S rfl S0 ⟨fun _ => ⟨rfl, G_409⟩, fun k_ => absurd hc0 k_⟩ (Below.refl _ _)
                      · have hl0 : (t_230 != c_214) = true := (by simpa using hc0)
                        have S1 := S
                        intro v_410 hF_411
                        obtain rfl := cndF.neg hF_411 hc0
                        replace S1 := S1.put (by decide : 176 < 243) (undef)
                        intro v_413 hF_412; obtain rfl : .bool (t_230 != c_214) = v_413 := Eq.symm hF_412
                        replace S1 := S1.put (by decide : 165 < 243) (.bool (t_230 != c_214))
                        refine fill_nil S1 ?_; clear S1; intro a_ S1
                        rw [show (t_230 != c_214) = true from hl0] at S1
                        have S0 := S.defers; replace S := S1; clear S1
                        refine wl_pure (l' := [(177, undef), (165, .bool true), (176, undef), (20, .int .i64 c_212), (19, .int .i64 c_214), (18, .int .i64 t_207), (16, .pointer (some (⟨b_179, 0, .none⟩ : Addr))), (14, v_154), (6, v_60)]) S tys tys_ok 1 (by kernel_rfl) ?_; clear S; intro a S
                        refine wpList_nil ?_
                        exact RPost.mk_ S rfl S0 ⟨fun k_ => absurd k_ hc0, fun _ => rfl⟩ (Below.refl _ _)
                    refine RunAll.cons (cndF (t_230 != c_214) false (eqv (.bool (t_240 != (lenI y_245))))) [(cndF (t_230 != c_214) false (isI .i64 t_240), 172), (cndF (t_230 != c_214) false (isI .i64 (lenI y_245)), 177), (eqv (.bool (t_230 != c_214)), 165)] rfl rfl ?_ ?_
                    · intro W_ hW
                      by_cases hc0 : (t_230 != c_214) = false
                      · have hl0 : (t_230 != c_214) = false := hc0
                        have S1 := S
                        intro v_414 hF_415
                        replace hF_415 := cndF.pos hF_415 hc0
                        revert hF_415
                        revert v_414
                        rintro _ ⟨rfl, hF_416⟩
                        replace S1 := S1.put (by decide : 172 < 243) (.int .i64 t_240)
                        intro v_418 hF_419
                        replace hF_419 := cndF.pos hF_419 hc0
                        revert hF_419
                        revert v_418
                        rintro _ ⟨rfl, hF_420⟩
                        replace S1 := S1.put (by decide : 177 < 243) (.int .i64 (lenI y_245))
                        intro v_423 hF_422; obtain rfl : .bool (t_230 != c_214) = v_423 := Eq.symm hF_422
                        replace S1 := S1.put (by decide : 165 < 243) (.bool (t_230 != c_214))
                        refine fill_nil S1 ?_; clear S1; intro a_ S1
                        rw [show (t_230 != c_214) = false from hl0] at S1
                        have S0 := S.defers; replace S := S1; clear S1
                        refine wl_pure (l' := [(178, .bool (t_240 != (lenI y_245))), (165, .bool false), (177, .int .i64 (lenI y_245)), (172, .int .i64 t_240), (20, .int .i64 c_212), (19, .int .i64 c_214), (18, .int .i64 t_207), (16, .pointer (some (⟨b_179, 0, .none⟩ : Addr))), (14, v_154), (6, v_60)]) S tys tys_ok 1 (by kernel_rfl) ?_; clear S; intro a S
                        refine wpList_nil ?_
                        exact RPost.mk_ S rfl S0 ⟨fun _ => rfl, fun k_ => absurd hc0 k_⟩ (Below.refl _ _)
                      · have hl0 : (t_230 != c_214) = true := (by simpa using hc0)
                        have S1 := S
                        intro v_424 hF_425
                        obtain rfl := cndF.neg hF_425 hc0
                        replace S1 := S1.put (by decide : 172 < 243) (undef)
                        intro v_426 hF_427
                        obtain rfl := cndF.neg hF_427 hc0
                        replace S1 := S1.put (by decide : 177 < 243) (undef)
                        intro v_429 hF_428; obtain rfl : .bool (t_230 != c_214) = v_429 := Eq.symm hF_428
                        replace S1 := S1.put (by decide : 165 < 243) (.bool (t_230 != c_214))
                        refine fill_nil S1 ?_; clear S1; intro a_ S1
                        rw [show (t_230 != c_214) = true from hl0] at S1
                        have S0 := S.defers; replace S := S1; clear S1
                        refine wl_pure (l' := [(178, undef), (165, .bool true), (177, undef), (172, undef), (20, .int .i64 c_212), (19, .int .i64 c_214), (18, .int .i64 t_207), (16, .pointer (some (⟨b_179, 0, .none⟩ : Addr))), (14, v_154), (6, v_60)]) S tys tys_ok 1 (by kernel_rfl) ?_; clear S; intro a S
                        refine wpList_nil ?_
                        exact RPost.mk_ S rfl S0 ⟨fun k_ => absurd k_ hc0, fun _ => rfl⟩ (Below.refl _ _)
                    refine RunAll.cons (eqv (.bool q_235)) [(eqv (.bool (t_230 != c_214)), 165), (cndF (t_230 != c_214) false (eqv (.bool (t_240 != (lenI y_245)))), 178)] rfl rfl ?_ ?_
                    · intro W_ hW
                      by_cases hc0 : (t_230 != c_214) = false
                      · have hl0 : (t_230 != c_214) = false := hc0
                        have S1 := S
                        intro v_431 hF_430; obtain rfl : .bool (t_230 != c_214) = v_431 := Eq.symm hF_430
                        replace S1 := S1.put (by decide : 165 < 243) (.bool (t_230 != c_214))
                        intro v_432 hF_433
                        replace hF_433 := cndF.pos hF_433 hc0
                        revert hF_433
                        revert v_432
                        intro v_435 hF_434; obtain rfl : .bool (t_240 != (lenI y_245)) = v_435 := Eq.symm hF_434
                        replace S1 := S1.put (by decide : 178 < 243) (.bool (t_240 != (lenI y_245)))
                        refine fill_nil S1 ?_; clear S1; intro a_ S1
                        rw [show (t_230 != c_214) = false from hl0] at S1
                        have S0 := S.defers; replace S := S1; clear S1
                        refine wl_pure (l' := [(179, .bool (t_240 != (lenI y_245))), (178, .bool (t_240 != (lenI y_245))), (165, .bool false), (20, .int .i64 c_212), (19, .int .i64 c_214), (18, .int .i64 t_207), (16, .pointer (some (⟨b_179, 0, .none⟩ : Addr))), (14, v_154), (6, v_60)]) S tys tys_ok 1 (by kernel_rfl) ?_; clear S; intro a S
                        refine wpList_nil ?_
                        exact RPost.mk_ S rfl S0 (congrArg Value.bool ((HG_236).1 hc0).2.2.2.2.2) (Below.refl _ _)
                      · have hl0 : (t_230 != c_214) = true := (by simpa using hc0)
                        have S1 := S
                        intro v_437 hF_436; obtain rfl : .bool (t_230 != c_214) = v_437 := Eq.symm hF_436
                        replace S1 := S1.put (by decide : 165 < 243) (.bool (t_230 != c_214))
                        intro v_438 hF_439
                        obtain rfl := cndF.neg hF_439 hc0
                        replace S1 := S1.put (by decide : 178 < 243) (undef)
                        refine fill_nil S1 ?_; clear S1; intro a_ S1
                        rw [show (t_230 != c_214) = true from hl0] at S1
                        have S0 := S.defers; replace S := S1; clear S1
                        refine wl_pure (l' := [(179, .bool true), (178, undef), (165, .bool true), (20, .int .i64 c_212), (19, .int .i64 c_214), (18, .int .i64 t_207), (16, .pointer (some (⟨b_179, 0, .none⟩ : Addr))), (14, v_154), (6, v_60)]) S tys tys_ok 1 (by kernel_rfl) ?_; clear S; intro a S
                        refine wpList_nil ?_
                        exact RPost.mk_ S rfl S0 (congrArg Value.bool ((HG_236).2 hc0)) (Below.refl _ _)
                    refine RunAll.cons (eqv (.bool q_235)) [(eqv (.bool q_235), 179)] rfl rfl ?_ ?_
                    · intro W_ hW
                      have S1 := S
                      intro v_441 hF_440; obtain rfl : .bool q_235 = v_441 := Eq.symm hF_440
                      replace S1 := S1.put (by decide : 179 < 243) (.bool q_235)
                      refine fill_nil S1 ?_; clear S1; intro a_ S1
                      have S0 := S.defers; replace S := S1; clear S1
                      refine wl_pure (l' := [(180, .bool q_235), (179, .bool q_235), (20, .int .i64 c_212), (19, .int .i64 c_214), (18, .int .i64 t_207), (16, .pointer (some (⟨b_179, 0, .none⟩ : Addr))), (14, v_154), (6, v_60)]) S tys tys_ok 1 (by kernel_rfl) ?_; clear S; intro a S
                      refine wpList_nil ?_
                      exact RPost.mk_ S rfl S0 rfl (Below.refl _ _)
                    refine RunAll.cons (cndF q_235 false (eqv (.pointer (some ((⟨b_179, 0, .none⟩ : Addr).add (coff (.pair (.int .u16) (.sl (.sl (.int .u8)))) 1)))))) [(eqv (.bool q_235), 180)] rfl rfl ?_ ?_
                    · intro W_ hW
                      by_cases hc1 : q_235 = false
                      · have hl1 : q_235 = false := hc1
                        have S1 := S
                        intro v_443 hF_442; obtain rfl : .bool q_235 = v_443 := Eq.symm hF_442
                        replace S1 := S1.put (by decide : 180 < 243) (.bool q_235)
                        refine fill_nil S1 ?_; clear S1; intro a_ S1
                        replace B_180 := B_180.step hW
                        rw [show q_235 = false from hl1] at S1
                        have S0 := S.defers; replace S := S1; clear S1
                        refine wl_pure (l' := [(181, .pointer (some ((⟨b_179, 0, .none⟩ : Addr).add (coff (.pair (.int .u16) (.sl (.sl (.int .u8)))) 1)))), (180, .bool false), (20, .int .i64 c_212), (19, .int .i64 c_214), (18, .int .i64 t_207), (16, .pointer (some (⟨b_179, 0, .none⟩ : Addr))), (14, v_154), (6, v_60)]) S tys tys_ok 1 (by kernel_rfl) ?_; clear S; intro a S
                        refine wpList_nil ?_
                        exact RPost.mk_ S rfl S0 ⟨fun _ => rfl, fun k_ => absurd hc1 k_⟩ (Below.refl _ _)
                      · have hl1 : q_235 = true := (by simpa using hc1)
                        have S1 := S
                        intro v_445 hF_444; obtain rfl : .bool q_235 = v_445 := Eq.symm hF_444
                        replace S1 := S1.put (by decide : 180 < 243) (.bool q_235)
                        refine fill_nil S1 ?_; clear S1; intro a_ S1
                        rw [show q_235 = true from hl1] at S1
                        have S0 := S.defers; replace S := S1; clear S1
                        refine wl_pure (l' := [(181, undef), (180, .bool true), (20, .int .i64 c_212), (19, .int .i64 c_214), (18, .int .i64 t_207), (16, .pointer (some (⟨b_179, 0, .none⟩ : Addr))), (14, v_154), (6, v_60)]) S tys tys_ok 1 (by kernel_rfl) ?_; clear S; intro a S
                        refine wpList_nil ?_
                        exact RPost.mk_ S rfl S0 ⟨fun k_ => absurd k_ hc1, fun _ => rfl⟩ (Below.refl _ _)
                    refine RunAll.cons (cndF q_235 false (isRep (.sl (.sl (.int .u8))) (Kx K w.heap.size [some b_179, v_58.ownBlock, some b_1]) t_172.1.2)) [(cndF q_235 false (eqv (.pointer (some ((⟨b_179, 0, .none⟩ : Addr).add (coff (.pair (.int .u16) (.sl (.sl (.int .u8)))) 1))))), 181), (eqv (.bool q_235), 180)] rfl rfl ?_ ?_
                    · intro W_ hW
                      by_cases hc1 : q_235 = false
                      · have hl1 : q_235 = false := hc1
                        have S1 := S
                        intro v_446 hF_447
                        replace hF_447 := cndF.pos hF_447 hc1
                        revert hF_447
                        revert v_446
                        intro v_449 hF_448; obtain rfl : .pointer (some ((⟨b_179, 0, .none⟩ : Addr).add (coff (.pair (.int .u16) (.sl (.sl (.int .u8)))) 1))) = v_449 := Eq.symm hF_448
                        replace S1 := S1.put (by decide : 181 < 243) (.pointer (some ((⟨b_179, 0, .none⟩ : Addr).add (coff (.pair (.int .u16) (.sl (.sl (.int .u8)))) 1))))
                        intro v_451 hF_450; obtain rfl : .bool q_235 = v_451 := Eq.symm hF_450
                        replace S1 := S1.put (by decide : 180 < 243) (.bool q_235)
                        refine fill_nil S1 ?_; clear S1; intro a_ S1
                        replace B_180 := B_180.step hW
                        rw [show q_235 = false from hl1] at S1
                        have S0 := S.defers; replace S := S1; clear S1
                        obtain ⟨ey_256, ex_263, ey_264, _⟩ := (HG_253).1 hc1
                        refine w_go S rfl (op_load (t := (.sl (.sl (.int .u8)))) (x := t_172.1.2) S rfl ty23 rfl rfl rfl (RepAt.add 1 (RepAt.st B_180.at_)) ?_)
                        clear S; intro a v_452 R_453 S
                        refine wpList_nil ?_
                        exact RPost.mk_ S rfl S0 ⟨fun _ => R_453, fun k_ => absurd hc1 k_⟩ (Below.refl _ _)
                      · have hl1 : q_235 = true := (by simpa using hc1)
                        have S1 := S
                        intro v_454 hF_455
                        obtain rfl := cndF.neg hF_455 hc1
                        replace S1 := S1.put (by decide : 181 < 243) (undef)
                        intro v_457 hF_456; obtain rfl : .bool q_235 = v_457 := Eq.symm hF_456
                        replace S1 := S1.put (by decide : 180 < 243) (.bool q_235)
                        refine fill_nil S1 ?_; clear S1; intro a_ S1
                        rw [show q_235 = true from hl1] at S1
                        have S0 := S.defers; replace S := S1; clear S1
                        refine wl_pure (l' := [(182, undef), (180, .bool true), (181, undef), (20, .int .i64 c_212), (19, .int .i64 c_214), (18, .int .i64 t_207), (16, .pointer (some (⟨b_179, 0, .none⟩ : Addr))), (14, v_154), (6, v_60)]) S tys tys_ok 1 (by kernel_rfl) ?_; clear S; intro a S
                        refine wpList_nil ?_
                        exact RPost.mk_ S rfl S0 ⟨fun k_ => absurd k_ hc1, fun _ => rfl⟩ (Below.refl _ _)
                    refine RunAll.cons (cndF q_235 false (isI .i64 c_212)) [(eqv (.bool q_235), 180)] rfl rfl ?_ ?_
                    · intro W_ hW
                      by_cases hc1 : q_235 = false
                      · have hl1 : q_235 = false := hc1
                        have S1 := S
                        intro v_459 hF_458; obtain rfl : .bool q_235 = v_459 := Eq.symm hF_458
                        replace S1 := S1.put (by decide : 180 < 243) (.bool q_235)
                        refine fill_nil S1 ?_; clear S1; intro a_ S1
                        rw [show q_235 = false from hl1] at S1
                        have S0 := S.defers; replace S := S1; clear S1
                        refine wl_pure (l' := [(183, .int .i64 c_212), (180, .bool false), (20, .int .i64 c_212), (19, .int .i64 c_214), (18, .int .i64 t_207), (16, .pointer (some (⟨b_179, 0, .none⟩ : Addr))), (14, v_154), (6, v_60)]) S tys tys_ok 1 (by kernel_rfl) ?_; clear S; intro a S
                        refine wpList_nil ?_
                        exact RPost.mk_ S rfl S0 ⟨fun _ => ⟨rfl, G_213⟩, fun k_ => absurd hc1 k_⟩ (Below.refl _ _)
                      · have hl1 : q_235 = true := (by simpa using hc1)
                        have S1 := S
                        intro v_461 hF_460; obtain rfl : .bool q_235 = v_461 := Eq.symm hF_460
                        replace S1 := S1.put (by decide : 180 < 243) (.bool q_235)
                        refine fill_nil S1 ?_; clear S1; intro a_ S1
                        rw [show q_235 = true from hl1] at S1
                        have S0 := S.defers; replace S := S1; clear S1
                        refine wl_pure (l' := [(183, undef), (180, .bool true), (20, .int .i64 c_212), (19, .int .i64 c_214), (18, .int .i64 t_207), (16, .pointer (some (⟨b_179, 0, .none⟩ : Addr))), (14, v_154), (6, v_60)]) S tys tys_ok 1 (by kernel_rfl) ?_; clear S; intro a S
                        refine wpList_nil ?_
                        exact RPost.mk_ S rfl S0 ⟨fun k_ => absurd k_ hc1, fun _ => rfl⟩ (Below.refl _ _)
                    refine RunAll.cons (cndF q_235 false (isEl (.sl (.int .u8)) (Kx K w.heap.size [some b_179, v_58.ownBlock, some b_1]) y_256)) [(cndF q_235 false (isRep (.sl (.sl (.int .u8))) (Kx K w.heap.size [some b_179, v_58.ownBlock, some b_1]) t_172.1.2), 182), (cndF q_235 false (isI .i64 c_212), 183), (eqv (.bool q_235), 180)] rfl rfl ?_ ?_
                    · intro W_ hW
                      by_cases hc1 : q_235 = false
                      · have hl1 : q_235 = false := hc1
                        have S1 := S
                        intro v_462 hF_463
                        replace hF_463 := cndF.pos hF_463 hc1
                        revert hF_463
                        revert v_462
                        intro v_465 hF_464; replace hF_464 : RepV _ _ _ _ _ := hF_464
                        replace S1 := S1.put (by decide : 182 < 243) (v_465)
                        intro v_466 hF_467
                        replace hF_467 := cndF.pos hF_467 hc1
                        revert hF_467
                        revert v_466
                        rintro _ ⟨rfl, hF_468⟩
                        replace S1 := S1.put (by decide : 183 < 243) (.int .i64 c_212)
                        intro v_471 hF_470; obtain rfl : .bool q_235 = v_471 := Eq.symm hF_470
                        replace S1 := S1.put (by decide : 180 < 243) (.bool q_235)
                        refine fill_nil S1 ?_; clear S1; intro a_ S1
                        replace W := W.step hW
                        rw [show q_235 = false from hl1] at S1
                        have S0 := S.defers; replace S := S1; clear S1
                        obtain ⟨ey_256, ex_263, ey_264, _⟩ := (HG_253).1 hc1
                        refine w_go S rfl (op_indexAddr S rfl ty23 rfl rfl rfl hF_464 rfl ey_256 ?_)
                        clear S; intro a p_472 R_473 H_474 S
                        refine wpList_nil ?_
                        exact RPost.mk_ S rfl S0 ⟨fun _ => ⟨_, rfl, R_473, H_474⟩, fun k_ => absurd hc1 k_⟩ (Below.refl _ _)
                      · have hl1 : q_235 = true := (by simpa using hc1)
                        have S1 := S
                        intro v_475 hF_476
                        obtain rfl := cndF.neg hF_476 hc1
                        replace S1 := S1.put (by decide : 182 < 243) (undef)
                        intro v_477 hF_478
                        obtain rfl := cndF.neg hF_478 hc1
                        replace S1 := S1.put (by decide : 183 < 243) (undef)
                        intro v_480 hF_479; obtain rfl : .bool q_235 = v_480 := Eq.symm hF_479
                        replace S1 := S1.put (by decide : 180 < 243) (.bool q_235)
                        refine fill_nil S1 ?_; clear S1; intro a_ S1
                        rw [show q_235 = true from hl1] at S1
                        have S0 := S.defers; replace S := S1; clear S1
                        refine wl_pure (l' := [(184, undef), (180, .bool true), (183, undef), (182, undef), (20, .int .i64 c_212), (19, .int .i64 c_214), (18, .int .i64 t_207), (16, .pointer (some (⟨b_179, 0, .none⟩ : Addr))), (14, v_154), (6, v_60)]) S tys tys_ok 1 (by kernel_rfl) ?_; clear S; intro a S
                        refine wpList_nil ?_
                        exact RPost.mk_ S rfl S0 ⟨fun k_ => absurd k_ hc1, fun _ => rfl⟩ (Below.refl _ _)
                    refine RunAll.cons (cndF q_235 false (isRep (.sl (.int .u8)) (Kx K w.heap.size [some b_179, v_58.ownBlock, some b_1]) y_256)) [(cndF q_235 false (isEl (.sl (.int .u8)) (Kx K w.heap.size [some b_179, v_58.ownBlock, some b_1]) y_256), 184), (eqv (.bool q_235), 180)] rfl rfl ?_ ?_
                    · intro W_ hW
                      by_cases hc1 : q_235 = false
                      · have hl1 : q_235 = false := hc1
                        have S1 := S
                        intro v_481 hF_482
                        replace hF_482 := cndF.pos hF_482 hc1
                        revert hF_482
                        revert v_481
                        rintro _ ⟨p_485, rfl, R_486, H_487⟩
                        replace S1 := S1.put (by decide : 184 < 243) (.pointer (some p_485))
                        intro v_489 hF_488; obtain rfl : .bool q_235 = v_489 := Eq.symm hF_488
                        replace S1 := S1.put (by decide : 180 < 243) (.bool q_235)
                        refine fill_nil S1 ?_; clear S1; intro a_ S1
                        rw [show q_235 = false from hl1] at S1
                        have S0 := S.defers; replace S := S1; clear S1
                        obtain ⟨ey_256, ex_263, ey_264, _⟩ := (HG_253).1 hc1
                        refine w_go S rfl (op_load (t := (.sl (.int .u8))) (x := y_256) S rfl ty28 rfl rfl rfl R_486 ?_)
                        clear S; intro a v_490 R_491 S
                        refine wpList_nil ?_
                        exact RPost.mk_ S rfl S0 ⟨fun _ => R_491, fun k_ => absurd hc1 k_⟩ (Below.refl _ _)
                      · have hl1 : q_235 = true := (by simpa using hc1)
                        have S1 := S
                        intro v_492 hF_493
                        obtain rfl := cndF.neg hF_493 hc1
                        replace S1 := S1.put (by decide : 184 < 243) (undef)
                        intro v_495 hF_494; obtain rfl : .bool q_235 = v_495 := Eq.symm hF_494
                        replace S1 := S1.put (by decide : 180 < 243) (.bool q_235)
                        refine fill_nil S1 ?_; clear S1; intro a_ S1
                        rw [show q_235 = true from hl1] at S1
                        have S0 := S.defers; replace S := S1; clear S1
                        refine wl_pure (l' := [(185, undef), (180, .bool true), (184, undef), (20, .int .i64 c_212), (19, .int .i64 c_214), (18, .int .i64 t_207), (16, .pointer (some (⟨b_179, 0, .none⟩ : Addr))), (14, v_154), (6, v_60)]) S tys tys_ok 1 (by kernel_rfl) ?_; clear S; intro a S
                        refine wpList_nil ?_
                        exact RPost.mk_ S rfl S0 ⟨fun k_ => absurd k_ hc1, fun _ => rfl⟩ (Below.refl _ _)
                    refine RunAll.cons (cndF q_235 false (isI .i64 x_263)) [(cndF q_235 false (isRep (.sl (.int .u8)) (Kx K w.heap.size [some b_179, v_58.ownBlock, some b_1]) y_256), 185), (eqv (.bool q_235), 180)] rfl rfl ?_ ?_
                    · intro W_ hW
                      by_cases hc1 : q_235 = false
                      · have hl1 : q_235 = false := hc1
                        have S1 := S
                        intro v_496 hF_497
                        replace hF_497 := cndF.pos hF_497 hc1
                        revert hF_497
                        revert v_496
                        intro v_499 hF_498; replace hF_498 : RepV _ _ _ _ _ := hF_498
                        replace S1 := S1.put (by decide : 185 < 243) (v_499)
                        intro v_501 hF_500; obtain rfl : .bool q_235 = v_501 := Eq.symm hF_500
                        replace S1 := S1.put (by decide : 180 < 243) (.bool q_235)
                        refine fill_nil S1 ?_; clear S1; intro a_ S1
                        replace W := W.step hW
                        rw [show q_235 = false from hl1] at S1
                        have S0 := S.defers; replace S := S1; clear S1
                        obtain ⟨ey_256, ex_263, ey_264, _⟩ := (HG_253).1 hc1
                        refine w_go S rfl (op_cap (K := _) S rfl ty28 rfl rfl rfl hF_498 ex_263 ?_)
                        clear S; intro a G_502 S
                        refine wpList_nil ?_
                        exact RPost.mk_ S rfl S0 ⟨fun _ => ⟨rfl, G_502⟩, fun k_ => absurd hc1 k_⟩ (Below.refl _ _)
                      · have hl1 : q_235 = true := (by simpa using hc1)
                        have S1 := S
                        intro v_503 hF_504
                        obtain rfl := cndF.neg hF_504 hc1
                        replace S1 := S1.put (by decide : 185 < 243) (undef)
                        intro v_506 hF_505; obtain rfl : .bool q_235 = v_506 := Eq.symm hF_505
                        replace S1 := S1.put (by decide : 180 < 243) (.bool q_235)
                        refine fill_nil S1 ?_; clear S1; intro a_ S1
                        rw [show q_235 = true from hl1] at S1
                        have S0 := S.defers; replace S := S1; clear S1
                        refine wl_pure (l' := [(186, undef), (180, .bool true), (185, undef), (20, .int .i64 c_212), (19, .int .i64 c_214), (18, .int .i64 t_207), (16, .pointer (some (⟨b_179, 0, .none⟩ : Addr))), (14, v_154), (6, v_60)]) S tys tys_ok 1 (by kernel_rfl) ?_; clear S; intro a S
                        refine wpList_nil ?_
                        exact RPost.mk_ S rfl S0 ⟨fun k_ => absurd k_ hc1, fun _ => rfl⟩ (Below.refl _ _)
                    refine RunAll.cons (cndF q_235 false (isRep (.sl (.sl (.int .u8))) (Kx K w.heap.size [some b_179, v_58.ownBlock, some b_1]) (⟨y_57.2, .none⟩ : Sl (Sl (Int))))) [(eqv (.bool q_235), 180)] rfl rfl ?_ ?_
                    · intro W_ hW
                      by_cases hc1 : q_235 = false
                      · have hl1 : q_235 = false := hc1
                        have S1 := S
                        intro v_508 hF_507; obtain rfl : .bool q_235 = v_508 := Eq.symm hF_507
                        replace S1 := S1.put (by decide : 180 < 243) (.bool q_235)
                        refine fill_nil S1 ?_; clear S1; intro a_ S1
                        replace R_150 := R_150.step hW
                        rw [show q_235 = false from hl1] at S1
                        have S0 := S.defers; replace S := S1; clear S1
                        refine wl_pure (l' := [(187, v_60), (180, .bool false), (20, .int .i64 c_212), (19, .int .i64 c_214), (18, .int .i64 t_207), (16, .pointer (some (⟨b_179, 0, .none⟩ : Addr))), (14, v_154), (6, v_60)]) S tys tys_ok 1 (by kernel_rfl) ?_; clear S; intro a S
                        refine wpList_nil ?_
                        exact RPost.mk_ S rfl S0 ⟨fun _ => R_150, fun k_ => absurd hc1 k_⟩ (Below.refl _ _)
                      · have hl1 : q_235 = true := (by simpa using hc1)
                        have S1 := S
                        intro v_510 hF_509; obtain rfl : .bool q_235 = v_510 := Eq.symm hF_509
                        replace S1 := S1.put (by decide : 180 < 243) (.bool q_235)
                        refine fill_nil S1 ?_; clear S1; intro a_ S1
                        rw [show q_235 = true from hl1] at S1
                        have S0 := S.defers; replace S := S1; clear S1
                        refine wl_pure (l' := [(187, undef), (180, .bool true), (20, .int .i64 c_212), (19, .int .i64 c_214), (18, .int .i64 t_207), (16, .pointer (some (⟨b_179, 0, .none⟩ : Addr))), (14, v_154), (6, v_60)]) S tys tys_ok 1 (by kernel_rfl) ?_; clear S; intro a S
                        refine wpList_nil ?_
                        exact RPost.mk_ S rfl S0 ⟨fun k_ => absurd k_ hc1, fun _ => rfl⟩ (Below.refl _ _)
                    refine RunAll.cons (cndF q_235 false (isI .i64 c_212)) [(eqv (.bool q_235), 180)] rfl rfl ?_ ?_
                    · intro W_ hW
                      by_cases hc1 : q_235 = false
                      · have hl1 : q_235 = false := hc1
                        have S1 := S
                        intro v_512 hF_511; obtain rfl : .bool q_235 = v_512 := Eq.symm hF_511
                        replace S1 := S1.put (by decide : 180 < 243) (.bool q_235)
                        refine fill_nil S1 ?_; clear S1; intro a_ S1
                        rw [show q_235 = false from hl1] at S1
                        have S0 := S.defers; replace S := S1; clear S1
                        refine wl_pure (l' := [(188, .int .i64 c_212), (180, .bool false), (20, .int .i64 c_212), (19, .int .i64 c_214), (18, .int .i64 t_207), (16, .pointer (some (⟨b_179, 0, .none⟩ : Addr))), (14, v_154), (6, v_60)]) S tys tys_ok 1 (by kernel_rfl) ?_; clear S; intro a S
                        refine wpList_nil ?_
                        exact RPost.mk_ S rfl S0 ⟨fun _ => ⟨rfl, G_213⟩, fun k_ => absurd hc1 k_⟩ (Below.refl _ _)
                      · have hl1 : q_235 = true := (by simpa using hc1)
                        have S1 := S
                        intro v_514 hF_513; obtain rfl : .bool q_235 = v_514 := Eq.symm hF_513
                        replace S1 := S1.put (by decide : 180 < 243) (.bool q_235)
                        refine fill_nil S1 ?_; clear S1; intro a_ S1
                        rw [show q_235 = true from hl1] at S1
                        have S0 := S.defers; replace S := S1; clear S1
                        refine wl_pure (l' := [(188, undef), (180, .bool true), (20, .int .i64 c_212), (19, .int .i64 c_214), (18, .int .i64 t_207), (16, .pointer (some (⟨b_179, 0, .none⟩ : Addr))), (14, v_154), (6, v_60)]) S tys tys_ok 1 (by kernel_rfl) ?_; clear S; intro a S
                        refine wpList_nil ?_
                        exact RPost.mk_ S rfl S0 ⟨fun k_ => absurd k_ hc1, fun _ => rfl⟩ (Below.refl _ _)
                    refine RunAll.cons (cndF q_235 false (isEl (.sl (.int .u8)) (Kx K w.heap.size [some b_179, v_58.ownBlock, some b_1]) y_264)) [(cndF q_235 false (isRep (.sl (.sl (.int .u8))) (Kx K w.heap.size [some b_179, v_58.ownBlock, some b_1]) (⟨y_57.2, .none⟩ : Sl (Sl (Int)))), 187), (cndF q_235 false (isI .i64 c_212), 188), (eqv (.bool q_235), 180)] rfl rfl ?_ ?_
                    · intro W_ hW
                      by_cases hc1 : q_235 = false
                      · have hl1 : q_235 = false := hc1
                        have S1 := S
                        intro v_515 hF_516
                        replace hF_516 := cndF.pos hF_516 hc1
                        revert hF_516
                        revert v_515
                        intro v_518 hF_517; replace hF_517 : RepV _ _ _ _ _ := hF_517
                        replace S1 := S1.put (by decide : 187 < 243) (v_518)
                        intro v_519 hF_520
                        replace hF_520 := cndF.pos hF_520 hc1
                        revert hF_520
                        revert v_519
                        rintro _ ⟨rfl, hF_521⟩
                        replace S1 := S1.put (by decide : 188 < 243) (.int .i64 c_212)
                        intro v_524 hF_523; obtain rfl : .bool q_235 = v_524 := Eq.symm hF_523
                        replace S1 := S1.put (by decide : 180 < 243) (.bool q_235)
                        refine fill_nil S1 ?_; clear S1; intro a_ S1
                        replace W := W.step hW
                        rw [show q_235 = false from hl1] at S1
                        have S0 := S.defers; replace S := S1; clear S1
                        obtain ⟨ey_256, ex_263, ey_264, _⟩ := (HG_253).1 hc1
                        refine w_go S rfl (op_indexAddr S rfl ty23 rfl rfl rfl hF_517 rfl ey_264 ?_)
                        clear S; intro a p_525 R_526 H_527 S
                        refine wpList_nil ?_
                        exact RPost.mk_ S rfl S0 ⟨fun _ => ⟨_, rfl, R_526, H_527⟩, fun k_ => absurd hc1 k_⟩ (Below.refl _ _)
                      · have hl1 : q_235 = true := (by simpa using hc1)
                        have S1 := S
                        intro v_528 hF_529
                        obtain rfl := cndF.neg hF_529 hc1
                        replace S1 := S1.put (by decide : 187 < 243) (undef)
                        intro v_530 hF_531
                        obtain rfl := cndF.neg hF_531 hc1
                        replace S1 := S1.put (by decide : 188 < 243) (undef)
                        intro v_533 hF_532; obtain rfl : .bool q_235 = v_533 := Eq.symm hF_532
                        replace S1 := S1.put (by decide : 180 < 243) (.bool q_235)
                        refine fill_nil S1 ?_; clear S1; intro a_ S1
                        rw [show q_235 = true from hl1] at S1
                        have S0 := S.defers; replace S := S1; clear S1
                        refine wl_pure (l' := [(189, undef), (180, .bool true), (188, undef), (187, undef), (20, .int .i64 c_212), (19, .int .i64 c_214), (18, .int .i64 t_207), (16, .pointer (some (⟨b_179, 0, .none⟩ : Addr))), (14, v_154), (6, v_60)]) S tys tys_ok 1 (by kernel_rfl) ?_; clear S; intro a S
                        refine wpList_nil ?_
                        exact RPost.mk_ S rfl S0 ⟨fun k_ => absurd k_ hc1, fun _ => rfl⟩ (Below.refl _ _)
                    refine RunAll.cons (cndF q_235 false (isRep (.sl (.int .u8)) (Kx K w.heap.size [some b_179, v_58.ownBlock, some b_1]) y_264)) [(cndF q_235 false (isEl (.sl (.int .u8)) (Kx K w.heap.size [some b_179, v_58.ownBlock, some b_1]) y_264), 189), (eqv (.bool q_235), 180)] rfl rfl ?_ ?_
                    · intro W_ hW
                      by_cases hc1 : q_235 = false
                      · have hl1 : q_235 = false := hc1
                        have S1 := S
                        intro v_534 hF_535
                        replace hF_535 := cndF.pos hF_535 hc1
                        revert hF_535
                        revert v_534
                        rintro _ ⟨p_538, rfl, R_539, H_540⟩
                        replace S1 := S1.put (by decide : 189 < 243) (.pointer (some p_538))
                        intro v_542 hF_541; obtain rfl : .bool q_235 = v_542 := Eq.symm hF_541
                        replace S1 := S1.put (by decide : 180 < 243) (.bool q_235)
                        refine fill_nil S1 ?_; clear S1; intro a_ S1
                        rw [show q_235 = false from hl1] at S1
                        have S0 := S.defers; replace S := S1; clear S1
                        obtain ⟨ey_256, ex_263, ey_264, _⟩ := (HG_253).1 hc1
                        refine w_go S rfl (op_load (t := (.sl (.int .u8))) (x := y_264) S rfl ty28 rfl rfl rfl R_539 ?_)
                        clear S; intro a v_543 R_544 S
                        refine wpList_nil ?_
                        exact RPost.mk_ S rfl S0 ⟨fun _ => R_544, fun k_ => absurd hc1 k_⟩ (Below.refl _ _)
                      · have hl1 : q_235 = true := (by simpa using hc1)
                        have S1 := S
                        intro v_545 hF_546
                        obtain rfl := cndF.neg hF_546 hc1
                        replace S1 := S1.put (by decide : 189 < 243) (undef)
                        intro v_548 hF_547; obtain rfl : .bool q_235 = v_548 := Eq.symm hF_547
                        replace S1 := S1.put (by decide : 180 < 243) (.bool q_235)
                        refine fill_nil S1 ?_; clear S1; intro a_ S1
                        rw [show q_235 = true from hl1] at S1
                        have S0 := S.defers; replace S := S1; clear S1
                        refine wl_pure (l' := [(190, undef), (180, .bool true), (189, undef), (20, .int .i64 c_212), (19, .int .i64 c_214), (18, .int .i64 t_207), (16, .pointer (some (⟨b_179, 0, .none⟩ : Addr))), (14, v_154), (6, v_60)]) S tys tys_ok 1 (by kernel_rfl) ?_; clear S; intro a S
                        refine wpList_nil ?_
                        exact RPost.mk_ S rfl S0 ⟨fun k_ => absurd k_ hc1, fun _ => rfl⟩ (Below.refl _ _)
                    refine RunAll.cons (cndF q_235 false (isI .i64 (lenI y_264))) [(cndF q_235 false (isRep (.sl (.int .u8)) (Kx K w.heap.size [some b_179, v_58.ownBlock, some b_1]) y_264), 190), (eqv (.bool q_235), 180)] rfl rfl ?_ ?_
                    · intro W_ hW
                      by_cases hc1 : q_235 = false
                      · have hl1 : q_235 = false := hc1
                        have S1 := S
                        intro v_549 hF_550
                        replace hF_550 := cndF.pos hF_550 hc1
                        revert hF_550
                        revert v_549
                        intro v_552 hF_551; replace hF_551 : RepV _ _ _ _ _ := hF_551
                        replace S1 := S1.put (by decide : 190 < 243) (v_552)
                        intro v_554 hF_553; obtain rfl : .bool q_235 = v_554 := Eq.symm hF_553
                        replace S1 := S1.put (by decide : 180 < 243) (.bool q_235)
                        refine fill_nil S1 ?_; clear S1; intro a_ S1
                        replace W := W.step hW
                        rw [show q_235 = false from hl1] at S1
                        have S0 := S.defers; replace S := S1; clear S1
                        obtain ⟨ey_256, ex_263, ey_264, _⟩ := (HG_253).1 hc1
                        refine w_go S rfl (op_len (K := _) S rfl ty28 rfl rfl rfl hF_551 ?_)
                        clear S; intro a G_555 S
                        refine wpList_nil ?_
                        exact RPost.mk_ S rfl S0 ⟨fun _ => ⟨rfl, G_555⟩, fun k_ => absurd hc1 k_⟩ (Below.refl _ _)
                      · have hl1 : q_235 = true := (by simpa using hc1)
                        have S1 := S
                        intro v_556 hF_557
                        obtain rfl := cndF.neg hF_557 hc1
                        replace S1 := S1.put (by decide : 190 < 243) (undef)
                        intro v_559 hF_558; obtain rfl : .bool q_235 = v_559 := Eq.symm hF_558
                        replace S1 := S1.put (by decide : 180 < 243) (.bool q_235)
                        refine fill_nil S1 ?_; clear S1; intro a_ S1
                        rw [show q_235 = true from hl1] at S1
                        have S0 := S.defers; replace S := S1; clear S1
                        refine wl_pure (l' := [(191, undef), (180, .bool true), (190, undef), (20, .int .i64 c_212), (19, .int .i64 c_214), (18, .int .i64 t_207), (16, .pointer (some (⟨b_179, 0, .none⟩ : Addr))), (14, v_154), (6, v_60)]) S tys tys_ok 1 (by kernel_rfl) ?_; clear S; intro a S
                        refine wpList_nil ?_
                        exact RPost.mk_ S rfl S0 ⟨fun k_ => absurd k_ hc1, fun _ => rfl⟩ (Below.refl _ _)
                    refine RunAll.cons (cndF q_235 false (eqv (.bool (x_263 != (lenI y_264))))) [(cndF q_235 false (isI .i64 x_263), 186), (cndF q_235 false (isI .i64 (lenI y_264)), 191), (eqv (.bool q_235), 180)] rfl rfl ?_ ?_
                    · intro W_ hW
                      by_cases hc1 : q_235 = false
                      · have hl1 : q_235 = false := hc1
                        have S1 := S
                        intro v_560 hF_561
                        replace hF_561 := cndF.pos hF_561 hc1
                        revert hF_561
                        revert v_560
                        rintro _ ⟨rfl, hF_562⟩
                        replace S1 := S1.put (by decide : 186 < 243) (.int .i64 x_263)
                        intro v_564 hF_565
                        replace hF_565 := cndF.pos hF_565 hc1
                        revert hF_565
                        revert v_564
                        rintro _ ⟨rfl, hF_566⟩
                        replace S1 := S1.put (by decide : 191 < 243) (.int .i64 (lenI y_264))
                        intro v_569 hF_568; obtain rfl : .bool q_235 = v_569 := Eq.symm hF_568
                        replace S1 := S1.put (by decide : 180 < 243) (.bool q_235)
                        refine fill_nil S1 ?_; clear S1; intro a_ S1
                        rw [show q_235 = false from hl1] at S1
                        have S0 := S.defers; replace S := S1; clear S1
                        refine wl_pure (l' := [(192, .bool (x_263 != (lenI y_264))), (180, .bool false), (191, .int .i64 (lenI y_264)), (186, .int .i64 x_263), (20, .int .i64 c_212), (19, .int .i64 c_214), (18, .int .i64 t_207), (16, .pointer (some (⟨b_179, 0, .none⟩ : Addr))), (14, v_154), (6, v_60)]) S tys tys_ok 1 (by kernel_rfl) ?_; clear S; intro a S
                        refine wpList_nil ?_
                        exact RPost.mk_ S rfl S0 ⟨fun _ => rfl, fun k_ => absurd hc1 k_⟩ (Below.refl _ _)
                      · have hl1 : q_235 = true := (by simpa using hc1)
                        have S1 := S
                        intro v_570 hF_571
                        obtain rfl := cndF.neg hF_571 hc1
                        replace S1 := S1.put (by decide : 186 < 243) (undef)
                        intro v_572 hF_573
                        obtain rfl := cndF.neg hF_573 hc1
                        replace S1 := S1.put (by decide : 191 < 243) (undef)
                        intro v_575 hF_574; obtain rfl : .bool q_235 = v_575 := Eq.symm hF_574
                        replace S1 := S1.put (by decide : 180 < 243) (.bool q_235)
                        refine fill_nil S1 ?_; clear S1; intro a_ S1
                        rw [show q_235 = true from hl1] at S1
                        have S0 := S.defers; replace S := S1; clear S1
                        refine wl_pure (l' := [(192, undef), (180, .bool true), (191, undef), (186, undef), (20, .int .i64 c_212), (19, .int .i64 c_214), (18, .int .i64 t_207), (16, .pointer (some (⟨b_179, 0, .none⟩ : Addr))), (14, v_154), (6, v_60)]) S tys tys_ok 1 (by kernel_rfl) ?_; clear S; intro a S
                        refine wpList_nil ?_
                        exact RPost.mk_ S rfl S0 ⟨fun k_ => absurd k_ hc1, fun _ => rfl⟩ (Below.refl _ _)
                    refine RunAll.cons (eqv (.bool q_252)) [(eqv (.bool q_235), 180), (cndF q_235 false (eqv (.bool (x_263 != (lenI y_264)))), 192)] rfl rfl ?_ ?_
                    · intro W_ hW
                      by_cases hc1 : q_235 = false
                      · have hl1 : q_235 = false := hc1
                        have S1 := S
                        intro v_577 hF_576; obtain rfl : .bool q_235 = v_577 := Eq.symm hF_576
                        replace S1 := S1.put (by decide : 180 < 243) (.bool q_235)
                        intro v_578 hF_579
                        replace hF_579 := cndF.pos hF_579 hc1
                        revert hF_579
                        revert v_578
                        intro v_581 hF_580; obtain rfl : .bool (x_263 != (lenI y_264)) = v_581 := Eq.symm hF_580
                        replace S1 := S1.put (by decide : 192 < 243) (.bool (x_263 != (lenI y_264)))
                        refine fill_nil S1 ?_; clear S1; intro a_ S1
                        rw [show q_235 = false from hl1] at S1
                        have S0 := S.defers; replace S := S1; clear S1
                        refine wl_pure (l' := [(193, .bool (x_263 != (lenI y_264))), (192, .bool (x_263 != (lenI y_264))), (180, .bool false), (20, .int .i64 c_212), (19, .int .i64 c_214), (18, .int .i64 t_207), (16, .pointer (some (⟨b_179, 0, .none⟩ : Addr))), (14, v_154), (6, v_60)]) S tys tys_ok 1 (by kernel_rfl) ?_; clear S; intro a S
                        refine wpList_nil ?_
                        exact RPost.mk_ S rfl S0 (congrArg Value.bool ((HG_253).1 hc1).2.2.2) (Below.refl _ _)
                      · have hl1 : q_235 = true := (by simpa using hc1)
                        have S1 := S
                        intro v_583 hF_582; obtain rfl : .bool q_235 = v_583 := Eq.symm hF_582
                        replace S1 := S1.put (by decide : 180 < 243) (.bool q_235)
                        intro v_584 hF_585
                        obtain rfl := cndF.neg hF_585 hc1
                        replace S1 := S1.put (by decide : 192 < 243) (undef)
                        refine fill_nil S1 ?_; clear S1; intro a_ S1
                        rw [show q_235 = true from hl1] at S1
                        have S0 := S.defers; replace S := S1; clear S1
                        refine wl_pure (l' := [(193, .bool true), (192, undef), (180, .bool true), (20, .int .i64 c_212), (19, .int .i64 c_214), (18, .int .i64 t_207), (16, .pointer (some (⟨b_179, 0, .none⟩ : Addr))), (14, v_154), (6, v_60)]) S tys tys_ok 1 (by kernel_rfl) ?_; clear S; intro a S
                        refine wpList_nil ?_
                        exact RPost.mk_ S rfl S0 (congrArg Value.bool ((HG_253).2 hc1)) (Below.refl _ _)
                    exact trivial
                  intro w_586 hb_587
                  refine EndE.some_ rfl ?_
                  intro v_589 hF_588; replace hF_588 : RepV _ _ _ _ _ := hF_588
                  replace S := S.put (by decide : 156 < 243) (v_589)
                  refine EndE.some_ rfl ?_
                  rintro _ ⟨rfl, hF_590⟩
                  replace S := S.put (by decide : 157 < 243) (.int .i64 t_207)
                  refine EndE.some_ rfl ?_
                  rintro _ ⟨rfl, hF_592⟩
                  replace S := S.put (by decide : 158 < 243) (.int .i64 x_227)
                  refine EndE.some_ rfl ?_
                  rintro _ ⟨rfl, hF_594⟩
                  replace S := S.put (by decide : 159 < 243) (.int .i64 c_212)
                  refine EndE.some_ rfl ?_
                  rintro _ ⟨rfl, hF_596⟩
                  replace S := S.put (by decide : 160 < 243) (.int .i64 x_228)
                  refine EndE.some_ rfl ?_
                  rintro _ ⟨rfl, hF_598⟩
                  replace S := S.put (by decide : 161 < 243) (.int .i64 x_229)
                  refine EndE.some_ rfl ?_
                  rintro _ ⟨rfl, hF_600⟩
                  replace S := S.put (by decide : 162 < 243) (.int .i64 t_230)
                  refine EndE.some_ rfl ?_
                  rintro _ ⟨rfl, hF_602⟩
                  replace S := S.put (by decide : 163 < 243) (.int .i64 c_214)
                  refine EndE.some_ rfl ?_
                  intro v_605 hF_604; obtain rfl : .bool (t_230 != c_214) = v_605 := Eq.symm hF_604
                  replace S := S.put (by decide : 164 < 243) (.bool (t_230 != c_214))
                  refine EndE.some_ rfl ?_
                  intro v_607 hF_606; obtain rfl : .bool (t_230 != c_214) = v_607 := Eq.symm hF_606
                  replace S := S.put (by decide : 165 < 243) (.bool (t_230 != c_214))
                  refine EndE.some_ rfl ?_
                  intro v_608 _
                  replace S := S.put (by decide : 166 < 243) (v_608)
                  refine EndE.some_ rfl ?_
                  intro v_609 _
                  replace S := S.put (by decide : 167 < 243) (v_609)
                  refine EndE.some_ rfl ?_
                  intro v_610 _
                  replace S := S.put (by decide : 168 < 243) (v_610)
                  refine EndE.some_ rfl ?_
                  intro v_611 _
                  replace S := S.put (by decide : 169 < 243) (v_611)
                  refine EndE.some_ rfl ?_
                  intro v_612 _
                  replace S := S.put (by decide : 170 < 243) (v_612)
                  refine EndE.some_ rfl ?_
                  intro v_613 _
                  replace S := S.put (by decide : 171 < 243) (v_613)
                  refine EndE.some_ rfl ?_
                  intro v_614 _
                  replace S := S.put (by decide : 172 < 243) (v_614)
                  refine EndE.some_ rfl ?_
                  intro v_615 _
                  replace S := S.put (by decide : 173 < 243) (v_615)
                  refine EndE.some_ rfl ?_
                  intro v_616 _
                  replace S := S.put (by decide : 174 < 243) (v_616)
                  refine EndE.some_ rfl ?_
                  intro v_617 _
                  replace S := S.put (by decide : 175 < 243) (v_617)
                  refine EndE.some_ rfl ?_
                  intro v_618 _
                  replace S := S.put (by decide : 176 < 243) (v_618)
                  refine EndE.some_ rfl ?_
                  intro v_619 _
                  replace S := S.put (by decide : 177 < 243) (v_619)
                  refine EndE.some_ rfl ?_
                  intro v_620 _
                  replace S := S.put (by decide : 178 < 243) (v_620)
                  refine EndE.some_ rfl ?_
                  intro v_622 hF_621; obtain rfl : .bool q_235 = v_622 := Eq.symm hF_621
                  replace S := S.put (by decide : 179 < 243) (.bool q_235)
                  refine EndE.some_ rfl ?_
                  intro v_624 hF_623; obtain rfl : .bool q_235 = v_624 := Eq.symm hF_623
                  replace S := S.put (by decide : 180 < 243) (.bool q_235)
                  refine EndE.some_ rfl ?_
                  intro v_625 _
                  replace S := S.put (by decide : 181 < 243) (v_625)
                  refine EndE.some_ rfl ?_
                  intro v_626 _
                  replace S := S.put (by decide : 182 < 243) (v_626)
                  refine EndE.some_ rfl ?_
                  intro v_627 _
                  replace S := S.put (by decide : 183 < 243) (v_627)
                  refine EndE.some_ rfl ?_
                  intro v_628 _
                  replace S := S.put (by decide : 184 < 243) (v_628)
                  refine EndE.some_ rfl ?_
                  intro v_629 _
                  replace S := S.put (by decide : 185 < 243) (v_629)
                  refine EndE.some_ rfl ?_
                  intro v_630 _
                  replace S := S.put (by decide : 186 < 243) (v_630)
                  refine EndE.some_ rfl ?_
                  intro v_631 _
                  replace S := S.put (by decide : 187 < 243) (v_631)
                  refine EndE.some_ rfl ?_
                  intro v_632 _
                  replace S := S.put (by decide : 188 < 243) (v_632)
                  refine EndE.some_ rfl ?_
                  intro v_633 _
                  replace S := S.put (by decide : 189 < 243) (v_633)
                  refine EndE.some_ rfl ?_
                  intro v_634 _
                  replace S := S.put (by decide : 190 < 243) (v_634)
                  refine EndE.some_ rfl ?_
                  intro v_635 _
                  replace S := S.put (by decide : 191 < 243) (v_635)
                  refine EndE.some_ rfl ?_
                  intro v_636 _
                  replace S := S.put (by decide : 192 < 243) (v_636)
                  refine EndE.some_ rfl ?_
                  intro v_638 hF_637; obtain rfl : .bool q_252 = v_638 := Eq.symm hF_637
                  replace S := S.put (by decide : 193 < 243) (.bool q_252)
                  refine endE_nil S ?_; clear S; intro a S
                  replace R_156 := R_156.step hb_587
                  replace R_150 := R_150.step hb_587
                  replace B_2 := B_2.step hb_587
                  replace B_180 := B_180.step hb_587
                  replace W := W.step hb_587
                  refine then_n ?_
                  replace S := S.sub (l' := [(193, .bool q_252), (20, .int .i64 c_212), (19, .int .i64 c_214), (18, .int .i64 t_207), (16, .pointer (some (⟨b_179, 0, .none⟩ : Addr))), (14, v_154), (6, v_60)]) (by exact ⟨rfl, rfl, rfl, rfl, rfl, rfl, rfl, trivial⟩)
                  refine wp_cond_split (S.eval (show ev _ _ = some (.bool q_252) from rfl)) ?_ ?_
                  · intro hc
                    rw [if_pos hc] at hl_224
                    refine wp_seq ?_
                    refine wp_region_lit ?_
                    refine wl_pure (l' := [(4, .bool false), (193, .bool q_252), (20, .int .i64 c_212), (19, .int .i64 c_214), (18, .int .i64 t_207), (16, .pointer (some (⟨b_179, 0, .none⟩ : Addr))), (14, v_154), (6, v_60)]) S tys tys_ok 1 (by kernel_rfl) ?_
                    clear S; intro a S
                    refine wpList_nil ?_
                    refine then_n ?_
                    replace S := S.sub (l' := [(4, .bool false)]) (by exact ⟨rfl, trivial⟩)
                    refine wp_ret ?_
                    refine then_r ?_
                    refine blk_r ?_
                    refine then_r ?_
                    refine then_r ?_
                    refine blk_r ?_
                    refine then_r ?_
                    refine then_r ?_
                    obtain rfl := Option.some.inj hl_224
                    obtain rfl := lr_inr h
                    exact b_ret1 S rfl rfl ⟨_, rfl, RepV.mkBool, W.below⟩
                  · intro hc
                    rw [if_neg (Bool.eq_false_iff.1 hc)] at hl_224
                    refine wp_skip ?_
                    refine then_n ?_
                    replace S := S.sub (l' := [(20, .int .i64 c_212), (19, .int .i64 c_214), (18, .int .i64 t_207), (16, .pointer (some (⟨b_179, 0, .none⟩ : Addr))), (14, v_154), (6, v_60)]) (by exact ⟨rfl, rfl, rfl, rfl, rfl, rfl, trivial⟩)
                    refine wp_seq ?_
                    refine wp_region_lit ?_
                    refine wl_pure (l' := [(196, .int .i64 c_212), (195, v_60), (194, .int .i64 c_214), (20, .int .i64 c_212), (19, .int .i64 c_214), (18, .int .i64 t_207), (16, .pointer (some (⟨b_179, 0, .none⟩ : Addr))), (14, v_154), (6, v_60)]) S tys tys_ok 3 (by kernel_rfl) ?_
                    clear S; intro a S
                    obtain ⟨y_639, ey_639, hl_224⟩ := bindS hl_224
                    refine w_go S rfl (op_indexAddr S rfl ty23 rfl rfl rfl R_150 rfl ey_639 ?_)
                    clear S; intro a p_640 R_641 H_642 S
                    refine w_go S rfl (op_load (t := (.sl (.int .u8))) (x := y_639) S rfl ty28 rfl rfl rfl R_641 ?_)
                    clear S; intro a v_643 R_644 S
                    refine w_go S rfl (op_len (K := _) S rfl ty28 rfl rfl rfl R_644 ?_)
                    clear S; intro a G_645 S
                    obtain ⟨x_646, ex_646, hl_224⟩ := bindS hl_224
                    refine w_go S rfl (op_arith S .i64 (c_214 + (lenI y_639)) rfl (.inl rfl) rfl rfl rfl rfl ex_646 ?_)
                    clear S; intro a S
                    refine wl_pure (l' := [(19, .int .i64 x_646), (200, .int .i64 x_646), (199, .int .i64 (lenI y_639)), (198, v_643), (197, .pointer (some p_640)), (196, .int .i64 c_212), (195, v_60), (194, .int .i64 c_214), (20, .int .i64 c_212), (19, .int .i64 c_214), (18, .int .i64 t_207), (16, .pointer (some (⟨b_179, 0, .none⟩ : Addr))), (14, v_154), (6, v_60)]) S tys tys_ok 1 (by kernel_rfl) ?_
                    clear S; intro a S
                    refine wpList_nil ?_
                    refine then_n ?_
                    replace S := S.sub (l' := [(19, .int .i64 x_646), (20, .int .i64 c_212), (18, .int .i64 t_207), (16, .pointer (some (⟨b_179, 0, .none⟩ : Addr))), (14, v_154), (6, v_60)]) (by exact ⟨rfl, rfl, rfl, rfl, rfl, rfl, trivial⟩)
                    obtain ⟨y_651, ey_651, hl_224⟩ := bindS hl_224
                    refine wp_cut_ (fun a_ w_ => ∃ s_652 : (Int), y_651 = .inl s_652 ∧ (St 243 a_ [(6, v_60), (14, v_154), (16, .pointer (some (⟨b_179, 0, .none⟩ : Addr))), (18, .int .i64 t_207), (19, .int .i64 s_652), (20, .int .i64 c_212)] ∧ Wd w w_ [some b_179, v_58.ownBlock, some b_1] ∧ InR .i64 s_652 ∧ RepV (.sl (.sl (.int .u8))) w_ (Kx K w.heap.size [some b_179, v_58.ownBlock, some b_1]) v_60 (⟨y_57.2, .none⟩ : Sl (Sl (Int))) ∧ RepV (.sl (.int .u8)) w_ (Kx K w.heap.size [some b_179, v_58.ownBlock, some b_1]) v_154 t_153.1 ∧ Bx (.st (.pair (.int .u16) (.sl (.sl (.int .u8))))) 25 w_ (Kx K w.heap.size [some b_179, v_58.ownBlock, some b_1]) b_1 x0 ∧ Bx (.st (.pair (.int .u16) (.sl (.sl (.int .u8))))) 25 w_ (Kx K w.heap.size [some b_179, v_58.ownBlock, some b_1]) b_179 t_172.1)) ?_ ?_
                    · refine wp_block ?_
                      refine wp_loop_n (fun m_ a_ w_ => ∃ (c_647 : Int) , St 243 a_ [(19, .int .i64 c_647), (20, .int .i64 c_212), (18, .int .i64 t_207), (16, .pointer (some (⟨b_179, 0, .none⟩ : Addr))), (14, v_154), (6, v_60)] ∧ Wd w w_ [some b_179, v_58.ownBlock, some b_1] ∧ InR .i64 c_647 ∧ RepV (.sl (.int .u8)) w_ (Kx K w.heap.size [some b_179, v_58.ownBlock, some b_1]) v_154 t_153.1 ∧ RepV (.sl (.sl (.int .u8))) w_ (Kx K w.heap.size [some b_179, v_58.ownBlock, some b_1]) v_60 (⟨y_57.2, .none⟩ : Sl (Sl (Int))) ∧ Bx (.st (.pair (.int .u16) (.sl (.sl (.int .u8))))) 25 w_ (Kx K w.heap.size [some b_179, v_58.ownBlock, some b_1]) b_1 x0 ∧ Bx (.st (.pair (.int .u16) (.sl (.sl (.int .u8))))) 25 w_ (Kx K w.heap.size [some b_179, v_58.ownBlock, some b_1]) b_179 t_172.1 ∧ p3_l5 n t_153 m_ c_647 = some y_651) n ?_ ?_
                      · skip
                        exact ⟨x_646, ⟨S.sub (by exact ⟨rfl, rfl, rfl, rfl, rfl, rfl, trivial⟩), W, (ckI_some ex_646).2.1, R_156, R_150, B_2, B_180, ey_651⟩⟩
                      · clear S W; rintro m_654 a w_656 ⟨c_647, S, W, G_648, R_156, R_150, B_2, B_180, hl_655⟩
                        cases m_654 with
                        | zero => exact absurd hl_655 (by simp [p3_l5])
                        | succ m_654 =>
                          refine ⟨m_654, rfl, ?_⟩
                          rw [p3_l5] at hl_655
                          refine wp_seq ?_
                          refine wp_seq ?_
                          refine wp_region_lit ?_
                          refine wl_pure (l' := [(201, .int .i64 c_647), (19, .int .i64 c_647), (20, .int .i64 c_212), (18, .int .i64 t_207), (16, .pointer (some (⟨b_179, 0, .none⟩ : Addr))), (14, v_154), (6, v_60)]) S tys tys_ok 1 (by kernel_rfl) ?_
                          clear S; intro a S
                          obtain ⟨x_657, ex_657, hl_655⟩ := bindS hl_655
                          refine w_go S rfl (op_rem S .i64 rfl rfl rfl rfl rfl ex_657 ?_)
                          clear S; intro a S
                          refine wl_pure (l' := [(203, .bool (x_657 != 0)), (202, .int .i64 x_657), (201, .int .i64 c_647), (19, .int .i64 c_647), (20, .int .i64 c_212), (18, .int .i64 t_207), (16, .pointer (some (⟨b_179, 0, .none⟩ : Addr))), (14, v_154), (6, v_60)]) S tys tys_ok 1 (by kernel_rfl) ?_
                          clear S; intro a S
                          refine wpList_nil ?_
                          refine then_n ?_
                          replace S := S.sub (l' := [(203, .bool (x_657 != 0)), (19, .int .i64 c_647), (20, .int .i64 c_212), (18, .int .i64 t_207), (16, .pointer (some (⟨b_179, 0, .none⟩ : Addr))), (14, v_154), (6, v_60)]) (by exact ⟨rfl, rfl, rfl, rfl, rfl, rfl, rfl, trivial⟩)
                          refine wp_cond_split (S.eval (show ev _ _ = some (.bool (x_657 != 0)) from rfl)) ?_ ?_
                          · intro hc
                            rw [if_pos hc] at hl_655
                            refine wp_skip ?_
                            refine then_n ?_
                            replace S := S.sub (l' := [(19, .int .i64 c_647), (20, .int .i64 c_212), (18, .int .i64 t_207), (16, .pointer (some (⟨b_179, 0, .none⟩ : Addr))), (14, v_154), (6, v_60)]) (by exact ⟨rfl, rfl, rfl, rfl, rfl, rfl, trivial⟩)
                            refine wp_block ?_
                            refine wp_seq ?_
                            refine wp_seq ?_
                            refine wp_region_lit ?_
                            refine wl_pure (l' := [(205, .int .i64 c_647), (204, v_154), (19, .int .i64 c_647), (20, .int .i64 c_212), (18, .int .i64 t_207), (16, .pointer (some (⟨b_179, 0, .none⟩ : Addr))), (14, v_154), (6, v_60)]) S tys tys_ok 2 (by kernel_rfl) ?_
                            clear S; intro a S
                            obtain ⟨y_658, ey_658, hl_655⟩ := bindS hl_655
                            refine w_go S rfl (op_indexAddr S rfl ty28 rfl rfl rfl R_156 rfl ey_658 ?_)
                            clear S; intro a p_659 R_660 H_661 S
                            refine w_go S rfl (op_load (t := (.int .u8)) (x := y_658) S rfl ty5 rfl rfl rfl R_660 ?_)
                            clear S; intro a v_662 R_663 S
                            obtain ⟨rfl, GR_663⟩ := RepV.int R_663
                            refine wl_pure (l' := [(208, .bool (y_658 != 0)), (207, .int .u8 y_658), (206, .pointer (some p_659)), (205, .int .i64 c_647), (204, v_154), (19, .int .i64 c_647), (20, .int .i64 c_212), (18, .int .i64 t_207), (16, .pointer (some (⟨b_179, 0, .none⟩ : Addr))), (14, v_154), (6, v_60)]) S tys tys_ok 1 (by kernel_rfl) ?_
                            clear S; intro a S
                            refine wpList_nil ?_
                            refine then_n ?_
                            replace S := S.sub (l' := [(208, .bool (y_658 != 0)), (19, .int .i64 c_647), (20, .int .i64 c_212), (18, .int .i64 t_207), (16, .pointer (some (⟨b_179, 0, .none⟩ : Addr))), (14, v_154), (6, v_60)]) (by exact ⟨rfl, rfl, rfl, rfl, rfl, rfl, rfl, trivial⟩)
                            refine wp_cond_split (S.eval (show ev _ _ = some (.bool (y_658 != 0)) from rfl)) ?_ ?_
                            · intro hc
                              rw [if_pos hc] at hl_655
                              refine wp_seq ?_
                              refine wp_region_lit ?_
                              refine wl_pure (l' := [(4, .bool false), (208, .bool (y_658 != 0)), (19, .int .i64 c_647), (20, .int .i64 c_212), (18, .int .i64 t_207), (16, .pointer (some (⟨b_179, 0, .none⟩ : Addr))), (14, v_154), (6, v_60)]) S tys tys_ok 1 (by kernel_rfl) ?_
                              clear S; intro a S
                              refine wpList_nil ?_
                              refine then_n ?_
                              replace S := S.sub (l' := [(4, .bool false)]) (by exact ⟨rfl, trivial⟩)
                              refine wp_ret ?_
                              refine then_r ?_
                              refine blk_r ?_
                              refine then_r ?_
                              refine blk_r ?_
                              refine then_r ?_
                              refine blk_r ?_
                              refine then_r ?_
                              refine then_r ?_
                              refine blk_r ?_
                              refine then_r ?_
                              refine then_r ?_
                              obtain rfl := Option.some.inj hl_655
                              have hq_ := lr_inr2 hl_224; subst hq_
                              obtain rfl := lr_inr h
                              exact b_ret1 S rfl rfl ⟨_, rfl, RepV.mkBool, W.below⟩
                            · intro hc
                              rw [if_neg (Bool.eq_false_iff.1 hc)] at hl_655
                              refine wp_skip ?_
                              refine then_n ?_
                              replace S := S.sub (l' := [(19, .int .i64 c_647), (20, .int .i64 c_212), (18, .int .i64 t_207), (16, .pointer (some (⟨b_179, 0, .none⟩ : Addr))), (14, v_154), (6, v_60)]) (by exact ⟨rfl, rfl, rfl, rfl, rfl, rfl, trivial⟩)
                              refine wp_region_lit ?_
                              refine wl_pure (l' := [(209, .int .i64 c_647), (19, .int .i64 c_647), (20, .int .i64 c_212), (18, .int .i64 t_207), (16, .pointer (some (⟨b_179, 0, .none⟩ : Addr))), (14, v_154), (6, v_60)]) S tys tys_ok 1 (by kernel_rfl) ?_
                              clear S; intro a S
                              obtain ⟨x_664, ex_664, hl_655⟩ := bindS hl_655
                              refine w_go S rfl (op_arith S .i64 (c_647 + 1) rfl (.inl rfl) rfl rfl rfl rfl ex_664 ?_)
                              clear S; intro a S
                              refine wl_pure (l' := [(19, .int .i64 x_664), (210, .int .i64 x_664), (209, .int .i64 c_647), (19, .int .i64 c_647), (20, .int .i64 c_212), (18, .int .i64 t_207), (16, .pointer (some (⟨b_179, 0, .none⟩ : Addr))), (14, v_154), (6, v_60)]) S tys tys_ok 1 (by kernel_rfl) ?_
                              clear S; intro a S
                              refine wpList_nil ?_
                              refine blk_n ?_
                              refine then_n ?_
                              exact ⟨x_664, ⟨S.sub (by exact ⟨rfl, rfl, rfl, rfl, rfl, rfl, trivial⟩), W, (ckI_some ex_664).2.1, R_156, R_150, B_2, B_180, hl_655⟩⟩
                          · intro hc
                            rw [if_neg (Bool.eq_false_iff.1 hc)] at hl_655
                            refine wp_exit ?_
                            refine then_x ?_
                            refine then_x ?_
                            refine blk_hit ?_
                            refine then_n ?_
                            obtain rfl := Option.some.inj hl_655
                            exact ⟨_, rfl, ⟨S.sub (by exact ⟨rfl, rfl, rfl, rfl, rfl, rfl, trivial⟩), W, G_648, R_150, R_156, B_2, B_180⟩⟩
                    clear S W; rintro a w_665 ⟨s_652, rfl, S, W, G_653, R_150, R_156, B_2, B_180⟩
                    replace hl_224 := lr_inl hl_224; try dsimp only at hl_224
                    refine blk_n ?_
                    refine then_n ?_
                    refine wp_region_lit ?_
                    refine wl_pure (l' := [(154, .int .i64 c_212), (6, v_60), (14, v_154), (16, .pointer (some (⟨b_179, 0, .none⟩ : Addr))), (18, .int .i64 t_207), (19, .int .i64 s_652), (20, .int .i64 c_212)]) S tys tys_ok 1 (by kernel_rfl) ?_
                    clear S; intro a S
                    obtain ⟨x_666, ex_666, hl_224⟩ := bindS hl_224
                    refine w_go S rfl (op_arith S .i64 (c_212 + 1) rfl (.inl rfl) rfl rfl rfl rfl ex_666 ?_)
                    clear S; intro a S
                    refine wl_pure (l' := [(20, .int .i64 x_666), (155, .int .i64 x_666), (154, .int .i64 c_212), (6, v_60), (14, v_154), (16, .pointer (some (⟨b_179, 0, .none⟩ : Addr))), (18, .int .i64 t_207), (19, .int .i64 s_652), (20, .int .i64 c_212)]) S tys tys_ok 1 (by kernel_rfl) ?_
                    clear S; intro a S
                    refine wpList_nil ?_
                    refine then_n ?_
                    exact ⟨x_666, s_652, ⟨S.sub (by exact ⟨rfl, rfl, rfl, rfl, rfl, rfl, trivial⟩), W, (ckI_some ex_666).2.1, G_653, R_156, R_150, B_2, B_180, hl_224⟩⟩
                · intro hc
                  rw [if_neg (Bool.eq_false_iff.1 hc)] at hl_224
                  refine wp_exit ?_
                  refine then_x ?_
                  refine then_x ?_
                  refine blk_hit ?_
                  refine then_n ?_
                  obtain rfl := Option.some.inj hl_224
                  exact ⟨_, rfl, ⟨S.sub (by exact ⟨rfl, rfl, rfl, rfl, trivial⟩), W, G_215, R_150, R_156, B_2, B_180⟩⟩
          clear S W; rintro a w_667 ⟨s_221, rfl, S, W, G_222, R_150, R_156, B_2, B_180⟩
          replace h := lr_inl h; try dsimp only at h
          refine then_n ?_
          refine wp_seq ?_
          refine wp_region_lit ?_
          refine wl_pure (l' := [(214, .bool (t_207 == s_221)), (213, .bool (t_207 == s_221)), (212, .int .i64 s_221), (211, .int .i64 t_207), (6, v_60), (14, v_154), (18, .int .i64 t_207), (19, .int .i64 s_221)]) S tys tys_ok 4 (by kernel_rfl) ?_
          clear S; intro a S
          obtain ⟨q_668, eq_668, h⟩ := bindS h
          refine seg 10 (fun a_ w_ => St 243 a_ [(224, .bool q_668), (14, v_154), (18, .int .i64 t_207)] ∧ Wd w w_ [some b_179, v_58.ownBlock, some b_1] ∧ RepV (.sl (.int .u8)) w_ (Kx K w.heap.size [some b_179, v_58.ownBlock, some b_1]) v_154 t_153.1 ∧ Bx (.st (.pair (.int .u16) (.sl (.sl (.int .u8))))) 25 w_ (Kx K w.heap.size [some b_179, v_58.ownBlock, some b_1]) b_1 x0 ∧ Bx (.st (.pair (.int .u16) (.sl (.sl (.int .u8))))) 25 w_ (Kx K w.heap.size [some b_179, v_58.ownBlock, some b_1]) b_179 t_172.1) ?_ ?_
          · by_cases hc : (t_207 == s_221) = true
            · rw [if_pos hc] at eq_668; rw [hc] at S
              refine wl_pure (l' := [(216, .int .i64 t_207), (215, v_154), (214, .bool true), (213, .bool true), (212, .int .i64 s_221), (211, .int .i64 t_207), (6, v_60), (14, v_154), (18, .int .i64 t_207), (19, .int .i64 s_221)]) S tys tys_ok 2 (by kernel_rfl) ?_
              clear S; intro a S
              obtain ⟨x_669, ex_669, eq_668⟩ := bindS eq_668
              refine w_go S rfl (op_arith S .i64 (t_207 + 4) rfl (.inl rfl) rfl rfl rfl rfl ex_669 ?_)
              clear S; intro a S
              obtain ⟨t_670, et_670, eq_668⟩ := bindS eq_668
              refine w_go S rfl (op_call (vs := [v_154, .int .i64 x_669]) S rfl cb14 rfl rfl rfl (c14 (Kx K w.heap.size [some b_179, v_58.ownBlock, some b_1]) n w_667 t_153.1 _ R_156 x_669 (ckI_some ex_669).2.1 et_670) ?_)
              rintro _ w_674 ⟨v_671, rfl, R_672, hb_673⟩; refine ⟨_, rfl, ?_⟩
              replace R_672 := RepV.back R_672 W
              clear S; intro a S
              replace R_150 := R_150.step hb_673
              replace R_156 := R_156.step hb_673
              replace B_2 := B_2.step hb_673
              replace B_180 := B_180.step hb_673
              replace W := W.step hb_673
              obtain ⟨rfl, GR_672⟩ := RepV.int R_672
              refine wl_pure (l' := [(219, v_60), (218, .int .i64 t_670), (217, .int .i64 x_669), (216, .int .i64 t_207), (215, v_154), (214, .bool true), (213, .bool true), (212, .int .i64 s_221), (211, .int .i64 t_207), (6, v_60), (14, v_154), (18, .int .i64 t_207), (19, .int .i64 s_221)]) S tys tys_ok 1 (by kernel_rfl) ?_
              clear S; intro a S
              refine w_go S rfl (op_len (K := _) S rfl ty23 rfl rfl rfl R_150 ?_)
              clear S; intro a G_675 S
              obtain ⟨x_676, ex_676, eq_668⟩ := bindS eq_668
              refine w_go S rfl (op_arith S .i64 (4 * (lenI (⟨y_57.2, .none⟩ : Sl (Sl (Int))))) rfl (.inr (.inr rfl)) rfl rfl rfl rfl ex_676 ?_)
              clear S; intro a S
              obtain ⟨x_677, ex_677, eq_668⟩ := bindS eq_668
              refine w_go S rfl (op_arith S .i64 (12 + x_676) rfl (.inl rfl) rfl rfl rfl rfl ex_677 ?_)
              clear S; intro a S
              refine wl_pure (l' := [(224, .bool (t_670 == x_677)), (223, .bool (t_670 == x_677)), (222, .int .i64 x_677), (221, .int .i64 x_676), (220, .int .i64 (lenI (⟨y_57.2, .none⟩ : Sl (Sl (Int))))), (219, v_60), (218, .int .i64 t_670), (217, .int .i64 x_669), (216, .int .i64 t_207), (215, v_154), (214, .bool true), (213, .bool true), (212, .int .i64 s_221), (211, .int .i64 t_207), (6, v_60), (14, v_154), (18, .int .i64 t_207), (19, .int .i64 s_221)]) S tys tys_ok 2 (by kernel_rfl) ?_
              clear S; intro a S
              obtain rfl := Option.some.inj eq_668
              exact ⟨S.sub (by exact ⟨rfl, rfl, rfl, trivial⟩), W, R_156, B_2, B_180⟩
            · rw [if_neg hc] at eq_668; rw [show (t_207 == s_221) = false from Bool.eq_false_iff.2 hc] at S
              refine wl_pure (l' := [(224, .bool false), (223, undef), (222, undef), (221, undef), (220, undef), (219, undef), (218, undef), (217, undef), (216, undef), (215, undef), (214, .bool false), (213, .bool false), (212, .int .i64 s_221), (211, .int .i64 t_207), (6, v_60), (14, v_154), (18, .int .i64 t_207), (19, .int .i64 s_221)]) S tys tys_ok 10 (by kernel_rfl) ?_
              clear S; intro a S
              obtain rfl := Option.some.inj eq_668
              exact ⟨S.sub (by exact ⟨rfl, rfl, rfl, trivial⟩), W, R_156, B_2, B_180⟩
          clear S W eq_668; rintro a w_678 ⟨S, W, R_156, B_2, B_180⟩
          refine wl_pure (l' := [(225, .bool q_668), (224, .bool q_668), (14, v_154), (18, .int .i64 t_207)]) S tys tys_ok 1 (by kernel_rfl) ?_
          clear S; intro a S
          obtain ⟨q_679, eq_679, h⟩ := bindS h
          refine seg 5 (fun a_ w_ => w_678 = w_ ∧ St 243 a_ [(230, .bool q_679), (14, v_154), (18, .int .i64 t_207)]) ?_ ?_
          · by_cases hc : q_668 = true
            · rw [if_pos hc] at eq_679; rw [hc] at S
              refine wl_pure (l' := [(226, v_154), (225, .bool true), (224, .bool true), (14, v_154), (18, .int .i64 t_207)]) S tys tys_ok 1 (by kernel_rfl) ?_
              clear S; intro a S
              obtain ⟨s_682, es_682, eq_679⟩ := bindS eq_679
              refine w_go S rfl (op_slice S rfl ty28 rfl rfl rfl R_156 (.inl ⟨rfl, rfl⟩) (.inr ⟨_, _, rfl, rfl⟩) es_682 ?_)
              clear S; intro a v_680 R_681 S
              refine w_go S rfl (op_str (K := _) S rfl ty28 ty9 rfl rfl rfl R_681 ?_)
              clear S; intro a S
              refine w_go S rfl (op_streq S rfl rfl rfl rfl (by kernel_rfl) (R_681.byt).1 ((strG ([78, 67, 77, 72]) (by decide) (by decide))).1 ?_)
              clear S; intro a S
              refine wl_pure (l' := [(230, .bool (decide (s_682.xs = [78, 67, 77, 72]))), (229, .bool (decide (s_682.xs = [78, 67, 77, 72]))), (228, .string (strOfNums s_682.xs)), (227, v_680), (226, v_154), (225, .bool true), (224, .bool true), (14, v_154), (18, .int .i64 t_207)]) S tys tys_ok 1 (by kernel_rfl) ?_
              clear S; intro a S
              obtain rfl := Option.some.inj eq_679
              exact ⟨rfl, S.sub (by exact ⟨rfl, rfl, rfl, trivial⟩)⟩
            · rw [if_neg hc] at eq_679; rw [show q_668 = false from Bool.eq_false_iff.2 hc] at S
              refine wl_pure (l' := [(230, .bool false), (229, undef), (228, undef), (227, undef), (226, undef), (225, .bool false), (224, .bool false), (14, v_154), (18, .int .i64 t_207)]) S tys tys_ok 5 (by kernel_rfl) ?_
              clear S; intro a S
              obtain rfl := Option.some.inj eq_679
              exact ⟨rfl, S.sub (by exact ⟨rfl, rfl, rfl, trivial⟩)⟩
          clear S eq_679; rintro a _ ⟨rfl, S⟩
          refine wl_pure (l' := [(231, .bool q_679), (230, .bool q_679), (14, v_154), (18, .int .i64 t_207)]) S tys tys_ok 1 (by kernel_rfl) ?_
          clear S; intro a S
          obtain ⟨q_683, eq_683, h⟩ := bindS h
          refine seg 8 (fun a_ w_ => w_678 = w_ ∧ St 243 a_ [(239, .bool q_683)]) ?_ ?_
          · by_cases hc : q_679 = true
            · rw [if_pos hc] at eq_683; rw [hc] at S
              refine wl_pure (l' := [(234, .int .i64 t_207), (233, .int .i64 t_207), (232, v_154), (231, .bool true), (230, .bool true), (14, v_154), (18, .int .i64 t_207)]) S tys tys_ok 3 (by kernel_rfl) ?_
              clear S; intro a S
              obtain ⟨x_684, ex_684, eq_683⟩ := bindS eq_683
              refine w_go S rfl (op_arith S .i64 (t_207 + 4) rfl (.inl rfl) rfl rfl rfl rfl ex_684 ?_)
              clear S; intro a S
              obtain ⟨s_687, es_687, eq_683⟩ := bindS eq_683
              refine w_go S rfl (op_slice S rfl ty28 rfl rfl rfl R_156 (.inr ⟨_, _, rfl, rfl⟩) (.inr ⟨_, _, rfl, rfl⟩) es_687 ?_)
              clear S; intro a v_685 R_686 S
              refine w_go S rfl (op_str (K := _) S rfl ty28 ty9 rfl rfl rfl R_686 ?_)
              clear S; intro a S
              refine w_go S rfl (op_streq S rfl rfl rfl rfl (by kernel_rfl) (R_686.byt).1 ((strG ([78, 67, 77, 48]) (by decide) (by decide))).1 ?_)
              clear S; intro a S
              refine wl_pure (l' := [(239, .bool (decide (s_687.xs = [78, 67, 77, 48]))), (238, .bool (decide (s_687.xs = [78, 67, 77, 48]))), (237, .string (strOfNums s_687.xs)), (236, v_685), (235, .int .i64 x_684), (234, .int .i64 t_207), (233, .int .i64 t_207), (232, v_154), (231, .bool true), (230, .bool true), (14, v_154), (18, .int .i64 t_207)]) S tys tys_ok 1 (by kernel_rfl) ?_
              clear S; intro a S
              obtain rfl := Option.some.inj eq_683
              exact ⟨rfl, S.sub (by exact ⟨rfl, trivial⟩)⟩
            · rw [if_neg hc] at eq_683; rw [show q_679 = false from Bool.eq_false_iff.2 hc] at S
              refine wl_pure (l' := [(239, .bool false), (238, undef), (237, undef), (236, undef), (235, undef), (234, undef), (233, undef), (232, undef), (231, .bool false), (230, .bool false), (14, v_154), (18, .int .i64 t_207)]) S tys tys_ok 8 (by kernel_rfl) ?_
              clear S; intro a S
              obtain rfl := Option.some.inj eq_683
              exact ⟨rfl, S.sub (by exact ⟨rfl, trivial⟩)⟩
          clear S eq_683; rintro a _ ⟨rfl, S⟩
          refine wl_pure (l' := [(240, .bool q_683), (239, .bool q_683)]) S tys tys_ok 1 (by kernel_rfl) ?_
          clear S; intro a S
          obtain ⟨q_688, eq_688, h⟩ := bindS h
          refine seg 2 (fun a_ w_ => St 243 a_ [(242, .bool q_688)] ∧ Wd w w_ [some b_179, v_58.ownBlock, some b_1] ∧ Bx (.st (.pair (.int .u16) (.sl (.sl (.int .u8))))) 25 w_ (Kx K w.heap.size [some b_179, v_58.ownBlock, some b_1]) b_1 x0 ∧ Bx (.st (.pair (.int .u16) (.sl (.sl (.int .u8))))) 25 w_ (Kx K w.heap.size [some b_179, v_58.ownBlock, some b_1]) b_179 t_172.1) ?_ ?_
          · by_cases hc : q_683 = true
            · rw [if_pos hc] at eq_688; rw [hc] at S
              obtain ⟨t_689, et_689, eq_688⟩ := bindS eq_688
              refine w_go S rfl (op_call (vs := []) S rfl cb8 rfl rfl rfl (c8 (Kx K w.heap.size [some b_179, v_58.ownBlock, some b_1]) n w_678  et_689) ?_)
              rintro _ w_693 ⟨v_690, rfl, R_691, hb_692⟩; refine ⟨_, rfl, ?_⟩
              replace R_691 := RepV.back R_691 W
              clear S; intro a S
              replace B_2 := B_2.step hb_692
              replace B_180 := B_180.step hb_692
              replace W := W.step hb_692
              obtain rfl := RepV.bool R_691
              refine wl_pure (l' := [(242, .bool t_689), (241, .bool t_689), (240, .bool true), (239, .bool true)]) S tys tys_ok 1 (by kernel_rfl) ?_
              clear S; intro a S
              obtain rfl := Option.some.inj eq_688
              exact ⟨S.sub (by exact ⟨rfl, trivial⟩), W, B_2, B_180⟩
            · rw [if_neg hc] at eq_688; rw [show q_683 = false from Bool.eq_false_iff.2 hc] at S
              refine wl_pure (l' := [(242, .bool false), (241, undef), (240, .bool false), (239, .bool false)]) S tys tys_ok 2 (by kernel_rfl) ?_
              clear S; intro a S
              obtain rfl := Option.some.inj eq_688
              exact ⟨S.sub (by exact ⟨rfl, trivial⟩), W, B_2, B_180⟩
          clear S W eq_688; rintro a w_694 ⟨S, W, B_2, B_180⟩
          refine wl_pure (l' := [(4, .bool q_688), (242, .bool q_688)]) S tys tys_ok 1 (by kernel_rfl) ?_
          clear S; intro a S
          refine wpList_nil ?_
          refine then_n ?_
          replace S := S.sub (l' := [(4, .bool q_688)]) (by exact ⟨rfl, trivial⟩)
          refine wp_ret ?_
          obtain rfl := Option.some.inj h
          exact b_ret1 S rfl rfl ⟨_, rfl, RepV.mkBool, W.below⟩

end Go.Proofs.Ytlgalcekkffhnaa
