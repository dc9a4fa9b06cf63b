/- Functions of the program, as plain data. -/
import Derived.Test.YtflieonbbggmhaaP2
set_option linter.unusedVariables false
set_option linter.unusedSimpArgs false
namespace Go.Proofs.Ytflieonbbggmhaa
open Go.RowKit

def p8_l1 (n : Nat)  : Nat → (Int) → (List ((Sl (Int)) × Bool)) → (List ((Sl (Int)) × Bool × Bool × Bool × Int)) → Option (((List ((Sl (Int)) × Bool × Bool × Bool × Int)) × (List ((Sl (Int)) × Bool))) ⊕ ((Bool)))
 | 0, _, _, _ => .none
 | m + 1, c_17, c_19, c_22 => if (decide (c_17 < 4)) then ((p12 n (⟨c_22, .none⟩ : Sl ((Sl (Int)) × Bool × Bool × Bool × Int)) 2).bind fun t_43 => (if (t_43.2.2 != 0) = false then (remI .i64 c_17 2).bind fun x_54 => some ((lenI t_43.2.1) != x_54) else some true).bind fun q_52 => if q_52 then (some (.inr false)) else (appI c_19 t_43.2.1.xs).bind fun l_55 => (ckI .i64 (c_17 + 1)).bind fun x_60 => p8_l1 n m x_60 l_55 t_43.1.xs) else some (.inl (c_22, c_19))
def p8 (n : Nat)  : Option ((Bool)) :=
 (p8_l1 n n 0 [] ([((⟨[1], some 1⟩ : Sl (Int)), false, false, false, 0), ((⟨[1, 2], some 2⟩ : Sl (Int)), false, false, false, 0)] : List ((Sl (Int)) × Bool × Bool × Bool × Int))).bind fun (y_33 : ((List ((Sl (Int)) × Bool × Bool × Bool × Int)) × (List ((Sl (Int)) × Bool))) ⊕ ((Bool))) =>
 lrK y_33 some fun (s_34 : (List ((Sl (Int)) × Bool × Bool × Bool × Int)) × (List ((Sl (Int)) × Bool))) =>
 (if ((lenI (⟨s_34.2, .none⟩ : Sl ((Sl (Int)) × Bool))) != 2) = false then (idx s_34.2 0).bind fun y_64 => (p22 n y_64.1 (⟨[1, 2], some 2⟩ : Sl (Int))).bind fun t_74 => some (!t_74) else some true).bind fun q_63 =>
 (if q_63 = false then (idx s_34.2 1).bind fun y_81 => (p22 n y_81.1 (⟨[1], some 1⟩ : Sl (Int))).bind fun t_91 => some (!t_91) else some true).bind fun q_80 =>
 (if q_80 = false then (idx s_34.2 0).bind fun y_98 => some y_98.2 else some true).bind fun q_97 =>
 (if q_97 = false then (idx s_34.2 1).bind fun y_105 => some y_105.2 else some true).bind fun q_104 =>
 if q_104 then (some false) else (p18 n (⟨s_34.1, .none⟩ : Sl ((Sl (Int)) × Bool × Bool × Bool × Int)) (⟨[1, 2], some 2⟩ : Sl (Int))).bind fun t_115 => (p17 n (⟨s_34.1, .none⟩ : Sl ((Sl (Int)) × Bool × Bool × Bool × Int)) (⟨[1, 2], some 2⟩ : Sl (Int)) true).bind fun t_128 => (if (t_115.2.2 != 6) = false then some (t_128.2.2 != 0) else some true).bind fun q_153 => (if q_153 = false then (p21 n t_128.2.1 (⟨[((⟨[1], some 1⟩ : Sl (Int)), true), ((⟨[1, 2], some 2⟩ : Sl (Int)), true)], some 2⟩ : Sl ((Sl (Int)) × Bool))).bind fun t_155 => some (!t_155) else some true).bind fun q_154 => (if q_154 = false then some ((lenI (⟨t_128.1.xs, t_128.1.cap⟩ : Sl ((Sl (Int)) × Bool × Bool × Bool × Int))) != 2) else some true).bind fun q_161 => (if q_161 = false then some ((lenI (⟨s_34.1, .none⟩ : Sl ((Sl (Int)) × Bool × Bool × Bool × Int))) != 2) else some true).bind fun q_163 => (if q_163 = false then (idx t_128.1.xs 1).bind fun y_166 => some (!y_166.2.1) else some true).bind fun q_165 => if q_165 then (some false) else (idx s_34.1 1).bind fun y_172 => (p18 n (⟨(s_34.1.set (1 : Int).toNat (y_172.1, y_172.2.1, true, y_172.2.2.2.1, y_172.2.2.2.2)), .none⟩ : Sl ((Sl (Int)) × Bool × Bool × Bool × Int)) (⟨[1, 2], some 2⟩ : Sl (Int))).bind fun t_184 => (if (t_184.2.2 == 0) = true then (p21 n t_184.2.1 (⟨[((⟨[1], some 1⟩ : Sl (Int)), true), ((⟨[1, 2], some 2⟩ : Sl (Int)), true)], some 2⟩ : Sl ((Sl (Int)) × Bool))).bind fun t_194 => some t_194 else some false).bind fun q_193 => some q_193
set_option maxHeartbeats 4000000 in
set_option maxRecDepth 100000 in
/-- plugboard/plugboardlaw32.lives -/
theorem c8 (K : Nat → Prop) (n : Nat) (w : World)  {r : (Bool)} (h : p8 n  = some r) :
  Calls Try.prog 8 #[] w (Ret1 .bool w (Kx K w.heap.size []) r) := by
 refine enter (args := []) Try.func8 rfl 140 rfl rfl fun a S => ?_
 have W := Wd.start w
 unfold p8 at h
 replace S : St 140 a [] := S
 refine wp_seq ?_
 refine wp_region_lit ?_
 refine wl_pure (l' := [(0, .bool false)]) S tys tys_ok 1 (by kernel_rfl) ?_
 clear S; intro a S
 refine wpList_nil ?_
 refine then_n ?_
 replace S := S.sub (l' := []) trivial
 refine wp_seq ?_
 refine wp_region_lit ?_
 refine w_go S rfl (op_buildSlice (K := K) (e := (.int .u8)) (vs := [.int .u8 1]) (xs := [1]) S W rfl ty35 rfl rfl (by kernel_rfl) rfl rfl rfl rfl rfl ⟨(RepV.mkInt (by decide)), trivial⟩ ?_)
 clear S; intro a w_4 v_1 hb_3 R_2 S
 replace W := W.step hb_3
 refine w_go S rfl (op_build (K := (Kx K w.heap.size [])) (f := gf2) (z0 := (⟨[], some 0⟩, false, false, false, 0)) (x := ((⟨[1], some 1⟩ : Sl (Int)), false, false, false, 0)) (vs := [v_1]) S _ rfl ty37 z37 (fun w K => ⟨[.slice .none 0 0], [.bool false, .bool false, .bool false, .int .i64 0], rfl, ⟨.none, 0, 0, rfl, rfl, Nat.le_refl _, by decide, fun k h => Option.some.inj h, .inl rfl⟩, ⟨[.bool false], [.bool false, .bool false, .int .i64 0], rfl, rfl, ⟨[.bool false], [.bool false, .int .i64 0], rfl, rfl, ⟨[.bool false], [.int .i64 0], rfl, rfl, ⟨rfl, by decide⟩⟩⟩⟩⟩) rfl rfl rfl [(0, v_1)] rfl ⟨_, R_2, rfl, rfl, rfl⟩ ?_)
 clear S; intro a v_5 R_6 S
 refine w_go S rfl (op_buildSlice (K := K) (e := (.int .u8)) (vs := [.int .u8 1, .int .u8 2]) (xs := [1, 2]) S W rfl ty35 rfl rfl (by kernel_rfl) rfl rfl rfl rfl rfl ⟨(RepV.mkInt (by decide)), (RepV.mkInt (by decide)), trivial⟩ ?_)
 clear S; intro a w_10 v_7 hb_9 R_8 S
 replace R_2 := R_2.step hb_9
 replace R_6 := R_6.step hb_9
 replace W := W.step hb_9
 refine w_go S rfl (op_build (K := (Kx K w.heap.size [])) (f := gf2) (z0 := (⟨[], some 0⟩, false, false, false, 0)) (x := ((⟨[1, 2], some 2⟩ : Sl (Int)), false, false, false, 0)) (vs := [v_7]) S _ rfl ty37 z37 (fun w K => ⟨[.slice .none 0 0], [.bool false, .bool false, .bool false, .int .i64 0], rfl, ⟨.none, 0, 0, rfl, rfl, Nat.le_refl _, by decide, fun k h => Option.some.inj h, .inl rfl⟩, ⟨[.bool false], [.bool false, .bool false, .int .i64 0], rfl, rfl, ⟨[.bool false], [.bool false, .int .i64 0], rfl, rfl, ⟨[.bool false], [.int .i64 0], rfl, rfl, ⟨rfl, by decide⟩⟩⟩⟩⟩) rfl rfl rfl [(0, v_7)] rfl ⟨_, R_8, rfl, rfl, rfl⟩ ?_)
 clear S; intro a v_11 R_12 S
 refine w_go S rfl (op_rowN (K := K) (e := gt2) (E0 := 37) (vs := [v_5, v_11]) (xs := [((⟨[1], some 1⟩ : Sl (Int)), false, false, false, 0), ((⟨[1, 2], some 2⟩ : Sl (Int)), false, false, false, 0)]) S W rfl ty25 un25 rfl rfl (by kernel_rfl) rfl rfl rfl rfl rfl ⟨R_6, R_12, trivial⟩ ?_)
 clear S; intro a w_14 b_13 hb_15 O_16 S
 replace R_2 := R_2.box hb_15
 replace R_6 := R_6.box hb_15
 replace R_8 := R_8.box hb_15
 replace R_12 := R_12.box hb_15
 replace W := W.box hb_15
 replace O_16 : Ow gt2 37 w_14 w.heap.size (Kx K w.heap.size [some b_13]) (.slice (some ⟨b_13, 0, .none⟩) 2 2) ([((⟨[1], some 1⟩ : Sl (Int)), false, false, false, 0), ((⟨[1, 2], some 2⟩ : Sl (Int)), false, false, false, 0)] : List ((Sl (Int)) × Bool × Bool × Bool × Int)) (some 2) := O_16
 refine wl_pureK (l' := [(1, (.slice (some ⟨b_13, 0, .none⟩) 2 2))]) S tys tys_ok 1 [1] (by kernel_rfl) ?_
 clear S; intro a S
 refine wpList_nil ?_
 refine then_n ?_
 refine wp_seq ?_
 refine wp_region_lit ?_
 refine wl_pure (l' := [(2, .slice .none 0 0), (1, (.slice (some ⟨b_13, 0, .none⟩) 2 2))]) S tys tys_ok 1 (by kernel_rfl) ?_
 clear S; intro a S
 refine wpList_nil ?_
 refine then_n ?_
 refine wp_seq ?_
 refine wp_seq ?_
 refine wp_region_lit ?_
 refine wl_pure (l' := [(3, .int .i64 0), (2, .slice .none 0 0), (1, (.slice (some ⟨b_13, 0, .none⟩) 2 2))]) S tys tys_ok 1 (by kernel_rfl) ?_
 clear S; intro a S
 refine wpList_nil ?_
 refine then_n ?_
 obtain ⟨y_33, ey_33, h⟩ := bindS h
 refine wp_cut_ (fun a_ w_ => ∃ s_34 : (List ((Sl (Int)) × Bool × Bool × Bool × Int)) × (List ((Sl (Int)) × Bool)), y_33 = .inl s_34 ∧ (∃ (v_35 : Value) (v_37 : Value), St 140 a_ [(1, v_35), (2, v_37)] ∧ Wd w w_ [v_37.ownBlock, v_35.ownBlock] ∧ Ow gt2 37 w_ w.heap.size (Kx K w.heap.size [v_37.ownBlock, v_35.ownBlock]) v_35 s_34.1 .none ∧ Ow gt0 39 w_ w.heap.size (Kx K w.heap.size [v_37.ownBlock, v_35.ownBlock]) v_37 s_34.2 .none)) ?_ ?_
 ·refine wp_block ?_
  refine wp_loop_n (fun m_ a_ w_ => ∃ (c_17 : Int) (c_19 : List ((Sl (Int)) × Bool)) (c_22 : List ((Sl (Int)) × Bool × Bool × Bool × Int)) , ∃ (v_20 : Value) (v_23 : Value), St 140 a_ [(3, .int .i64 c_17), (2, v_20), (1, v_23)] ∧ Wd w w_ [v_20.ownBlock, v_23.ownBlock] ∧ InR .i64 c_17 ∧ Ow gt0 39 w_ w.heap.size (Kx K w.heap.size [v_20.ownBlock, v_23.ownBlock]) v_20 c_19 .none ∧ Ow gt2 37 w_ w.heap.size (Kx K w.heap.size [v_20.ownBlock, v_23.ownBlock]) v_23 c_22 .none ∧ p8_l1 n m_ c_17 c_19 c_22 = some y_33) n ?_ ?_
  ·skip
   replace O_16 := O_16.more
   replace W := W.more
   have O_41 : Ow gt0 39 w_14 w.heap.size (Kx K w.heap.size [.none, some b_13]) (.slice .none 0 0) ([] : List ((Sl (Int)) × Bool)) (some 0) := Ow.nil
   exact ⟨0, [], ([((⟨[1], some 1⟩ : Sl (Int)), false, false, false, 0), ((⟨[1, 2], some 2⟩ : Sl (Int)), false, false, false, 0)] : List ((Sl (Int)) × Bool × Bool × Bool × Int)), ⟨(.slice .none 0 0), (.slice (some ⟨b_13, 0, .none⟩) 2 2), S.sub (by exact ⟨rfl, rfl, rfl, trivial⟩), W, (by decide), O_41.forget, O_16.forget, ey_33⟩⟩
  ·clear S W; rintro m_39 a w_42 ⟨c_17, c_19, c_22, v_20, v_23, S, W, G_18, O_21, O_24, hl_40⟩
   cases m_39 with
   | zero => exact absurd hl_40 (by simp [p8_l1])
   | succ m_39 =>
    refine ⟨m_39, rfl, ?_⟩
    rw [p8_l1] at hl_40
    refine wp_seq ?_
    refine wp_seq ?_
    refine wp_region_lit ?_
    refine wl_pure (l' := [(20, .bool (decide (c_17 < 4))), (19, .int .i64 c_17), (3, .int .i64 c_17), (2, v_20), (1, v_23)]) S tys tys_ok 2 (by kernel_rfl) ?_
    clear S; intro a S
    refine wpList_nil ?_
    refine then_n ?_
    replace S := S.sub (l' := [(20, .bool (decide (c_17 < 4))), (3, .int .i64 c_17), (2, v_20), (1, v_23)]) (by exact ⟨rfl, rfl, rfl, rfl, trivial⟩)
    refine wp_cond_split (S.eval (show ev _ _ = some (.bool (decide (c_17 < 4))) from rfl)) ?_ ?_
    ·intro hc
     rw [if_pos hc] at hl_40
     refine wp_skip ?_
     refine then_n ?_
     replace S := S.sub (l' := [(3, .int .i64 c_17), (2, v_20), (1, v_23)]) (by exact ⟨rfl, rfl, rfl, trivial⟩)
     refine wp_seq ?_
     refine wp_block ?_
     refine wp_seq ?_
     refine wp_region_lit ?_
     refine wl_pure (l' := [(24, v_23), (3, .int .i64 c_17), (2, v_20), (1, v_23)]) S tys tys_ok 1 (by kernel_rfl) ?_
     clear S; intro a S
     obtain ⟨t_43, et_43, hl_40⟩ := bindS hl_40
     refine w_go S rfl (op_call (vs := [v_23, .int .i64 2]) S rfl cb12 rfl rfl rfl (c12 (Kx K w.heap.size [v_20.ownBlock]) n w_42 (⟨c_22, .none⟩ : Sl ((Sl (Int)) × Bool × Bool × Bool × Int)) _ (O_24.pubAt W 1 rfl) 2 (by decide) et_43) ?_)
     rintro _ w_51 ⟨v_44, v_45, v_46, rfl, R_47, R_48, R_49, hb_50⟩; refine ⟨_, rfl, ?_⟩
     have NO_ := newO_of R_47 (Nat.le_refl _) hb_50
     replace R_47 := Ow.backO R_47 (W.lessAt 1)
     replace R_48 := RepV.backO R_48 (W.lessAt 1)
     replace R_49 := RepV.backO R_49 (W.lessAt 1)
     clear S; intro a S
     replace O_21 := O_21.newO NO_
     replace O_24 := O_24.newO NO_
     replace W := W.newO NO_
     clear NO_
     obtain ⟨rfl, GR_49⟩ := RepV.int R_49
     refine wl_pureK (l' := [(6, .int .i64 t_43.2.2), (5, v_45), (4, v_44), (3, .int .i64 c_17), (2, v_20)]) S tys tys_ok 7 [6, 5, 4, 3, 2] (by kernel_rfl) ?_
     clear S; intro a S
     refine wpList_nil ?_
     refine then_n ?_
     refine wp_seq ?_
     refine wp_seq ?_
     refine wp_region_lit ?_
     refine wl_pureK (l' := [(31, .bool (t_43.2.2 != 0)), (5, v_45), (4, v_44), (3, .int .i64 c_17), (2, v_20)]) S tys tys_ok 3 [31, 5, 4, 3, 2] (by kernel_rfl) ?_
     clear S; intro a S
     obtain ⟨q_52, eq_52, hl_40⟩ := bindS hl_40
     refine seg 6 (fun a_ w_ => w_51 = w_ ∧ St 140 a_ [(37, .bool q_52), (5, v_45), (4, v_44), (3, .int .i64 c_17), (2, v_20)]) ?_ ?_
     ·by_cases hc : (t_43.2.2 != 0) = false
      ·rw [if_pos hc] at eq_52; rw [hc] at S
       refine wl_pure (l' := [(32, v_45), (31, .bool false), (5, v_45), (4, v_44), (3, .int .i64 c_17), (2, v_20)]) S tys tys_ok 1 (by kernel_rfl) ?_
       clear S; intro a S
       refine w_go S rfl (op_len (K := _) S rfl ty26 rfl rfl rfl R_48 ?_)
       clear S; intro a G_53 S
       refine wl_pure (l' := [(34, .int .i64 c_17), (33, .int .i64 (lenI t_43.2.1)), (32, v_45), (31, .bool false), (5, v_45), (4, v_44), (3, .int .i64 c_17), (2, v_20)]) S tys tys_ok 1 (by kernel_rfl) ?_
       clear S; intro a S
       obtain ⟨x_54, ex_54, eq_52⟩ := bindS eq_52
       refine w_go S rfl (op_rem S .i64 rfl rfl rfl rfl rfl ex_54 ?_)
       clear S; intro a S
       refine wl_pure (l' := [(37, .bool ((lenI t_43.2.1) != x_54)), (36, .bool ((lenI t_43.2.1) != x_54)), (35, .int .i64 x_54), (34, .int .i64 c_17), (33, .int .i64 (lenI t_43.2.1)), (32, v_45), (31, .bool false), (5, v_45), (4, v_44), (3, .int .i64 c_17), (2, v_20)]) S tys tys_ok 2 (by kernel_rfl) ?_
       clear S; intro a S
       obtain rfl := Option.some.inj eq_52
       exact ⟨rfl, S.sub (by exact ⟨rfl, rfl, rfl, rfl, rfl, trivial⟩)⟩
      ·rw [if_neg hc] at eq_52; rw [show (t_43.2.2 != 0) = true from (by simpa using hc)] at S
       refine wl_pure (l' := [(37, .bool true), (36, undef), (35, undef), (34, undef), (33, undef), (32, undef), (31, .bool true), (5, v_45), (4, v_44), (3, .int .i64 c_17), (2, v_20)]) S tys tys_ok 6 (by kernel_rfl) ?_
       clear S; intro a S
       obtain rfl := Option.some.inj eq_52
       exact ⟨rfl, S.sub (by exact ⟨rfl, rfl, rfl, rfl, rfl, trivial⟩)⟩
     clear S eq_52; rintro a _ ⟨rfl, S⟩
     refine wpList_nil ?_
     refine then_n ?_
     refine wp_cond_split (S.eval (show ev _ _ = some (.bool q_52) from rfl)) ?_ ?_
     ·intro hc
      rw [if_pos hc] at hl_40
      refine wp_seq ?_
      refine wp_region_lit ?_
      refine wl_pureK (l' := [(0, .bool false)]) S tys tys_ok 1 [0] (by kernel_rfl) ?_
      clear S; intro a S
      refine wpList_nil ?_
      refine then_n ?_
      refine wp_ret ?_
      refine then_r ?_
      refine blk_r ?_
      refine then_r ?_
      refine then_r ?_
      refine blk_r ?_
      refine then_r ?_
      refine then_r ?_
      obtain rfl := Option.some.inj hl_40
      obtain rfl := lr_inr h
      exact b_ret1 S rfl rfl ⟨_, rfl, RepV.mkBool, W.below⟩
     ·intro hc
      rw [if_neg (Bool.eq_false_iff.1 hc)] at hl_40
      refine wp_skip ?_
      refine then_n ?_
      replace S := S.sub (l' := [(5, v_45), (4, v_44), (3, .int .i64 c_17), (2, v_20)]) (by exact ⟨rfl, rfl, rfl, rfl, trivial⟩)
      refine wp_seq ?_
      refine wp_region_lit ?_
      refine wl_pure (l' := [(1, v_44), (38, v_44), (5, v_45), (4, v_44), (3, .int .i64 c_17), (2, v_20)]) S tys tys_ok 2 (by kernel_rfl) ?_
      clear S; intro a S
      refine wpList_nil ?_
      refine then_n ?_
      replace S := S.sub (l' := [(1, v_44), (5, v_45), (3, .int .i64 c_17), (2, v_20)]) (by exact ⟨rfl, rfl, rfl, rfl, trivial⟩)
      refine wp_region_lit ?_
      refine wl_pure (l' := [(40, v_45), (39, v_20), (1, v_44), (5, v_45), (3, .int .i64 c_17), (2, v_20)]) S tys tys_ok 2 (by kernel_rfl) ?_
      clear S; intro a S
      replace O_21 : Ow gt0 39 w_51 w.heap.size (Kx K w.heap.size [v_44.ownBlock, v_20.ownBlock]) v_20 c_19 .none := O_21.lessAt 2
      replace W : Wd w w_51 [v_44.ownBlock, v_20.ownBlock] := W.lessAt 2
      obtain ⟨l_55, el_55, hl_40⟩ := bindS hl_40
      refine w_go S rfl (op_append S W (E := 39) 1 rfl ty26 un26 by26 rfl rfl rfl rfl O_21 rfl R_48 el_55 ?_)
      clear S; intro a w_57 v_56 A_58 O_59 S
      replace R_48 : RepV (.sl gt0) w_57 (Kx K w.heap.size [v_44.ownBlock, v_56.ownBlock]) v_45 t_43.2.1 := R_48.apd A_58 (i := 1) rfl
      replace R_47 : Ow gt2 37 w_57 w.heap.size (Kx K w.heap.size [v_44.ownBlock, v_56.ownBlock]) v_44 t_43.1.xs t_43.1.cap := R_47.apd W A_58 (i := 1) rfl (j := 0) rfl (by decide)
      replace W : Wd w w_57 [v_44.ownBlock, v_56.ownBlock] := W.apd A_58 (i := 1) rfl
      replace O_59 : Ow gt0 39 w_57 w.heap.size (Kx K w.heap.size [v_44.ownBlock, v_56.ownBlock]) v_56 l_55 (capA .none l_55.length) := O_59
      refine wl_pureK (l' := [(2, v_56), (1, v_44), (3, .int .i64 c_17), (2, v_20)]) S tys tys_ok 1 [2, 1, 3] (by kernel_rfl) ?_
      clear S; intro a S
      refine wpList_nil ?_
      refine blk_n ?_
      refine then_n ?_
      refine wp_region_lit ?_
      refine wl_pure (l' := [(21, .int .i64 c_17), (2, v_56), (1, v_44), (3, .int .i64 c_17), (2, v_20)]) S tys tys_ok 1 (by kernel_rfl) ?_
      clear S; intro a S
      obtain ⟨x_60, ex_60, hl_40⟩ := bindS hl_40
      refine w_go S rfl (op_arith S .i64 (c_17 + 1) rfl (.inl rfl) rfl rfl rfl rfl ex_60 ?_)
      clear S; intro a S
      refine wl_pure (l' := [(3, .int .i64 x_60), (22, .int .i64 x_60), (21, .int .i64 c_17), (2, v_56), (1, v_44), (3, .int .i64 c_17), (2, v_20)]) S tys tys_ok 1 (by kernel_rfl) ?_
      clear S; intro a S
      refine wpList_nil ?_
      refine then_n ?_
      replace R_47 : Ow gt2 37 w_57 w.heap.size (Kx K w.heap.size [v_56.ownBlock, v_44.ownBlock]) v_44 t_43.1.xs t_43.1.cap := R_47.mv 1 rfl
      replace O_59 : Ow gt0 39 w_57 w.heap.size (Kx K w.heap.size [v_56.ownBlock, v_44.ownBlock]) v_56 l_55 (capA .none l_55.length) := O_59.mv 1 rfl
      replace W : Wd w w_57 [v_56.ownBlock, v_44.ownBlock] := W.mv 1 rfl
      exact ⟨x_60, l_55, t_43.1.xs, ⟨v_56, v_44, S.sub (by exact ⟨rfl, rfl, rfl, trivial⟩), W, (ckI_some ex_60).2.1, O_59.forget, R_47.forget, hl_40⟩⟩
    ·intro hc
     rw [if_neg (Bool.eq_false_iff.1 hc)] at hl_40
     refine wp_exit ?_
     refine then_x ?_
     refine then_x ?_
     refine blk_hit ?_
     refine then_n ?_
     obtain rfl := Option.some.inj hl_40
     exact ⟨_, rfl, ⟨v_23, v_20, S.sub (by exact ⟨rfl, rfl, trivial⟩), W, O_24, O_21⟩⟩
 clear S W; rintro a w_61 ⟨s_34, rfl, v_35, v_37, S, W, O_36, O_38⟩
 replace h := lr_inl h; try dsimp only at h
 refine then_n ?_
 refine wp_seq ?_
 refine wp_seq ?_
 refine wp_region_lit ?_
 refine wl_pure (l' := [(42, v_37), (1, v_35), (2, v_37)]) S tys tys_ok 1 (by kernel_rfl) ?_
 clear S; intro a S
 refine w_go S rfl (op_len (K := _) S rfl ty26 rfl rfl rfl O_38.read ?_)
 clear S; intro a G_62 S
 refine wl_pureK (l' := [(45, .bool ((lenI (⟨s_34.2, .none⟩ : Sl ((Sl (Int)) × Bool))) != 2)), (1, v_35), (2, v_37)]) S tys tys_ok 2 [45, 1, 2] (by kernel_rfl) ?_
 clear S; intro a S
 obtain ⟨q_63, eq_63, h⟩ := bindS h
 refine seg 8 (fun a_ w_ => St 140 a_ [(53, .bool q_63), (1, v_35), (2, v_37)] ∧ Wd w w_ [v_37.ownBlock, v_35.ownBlock] ∧ Ow gt2 37 w_ w.heap.size (Kx K w.heap.size [v_37.ownBlock, v_35.ownBlock]) v_35 s_34.1 .none ∧ Ow gt0 39 w_ w.heap.size (Kx K w.heap.size [v_37.ownBlock, v_35.ownBlock]) v_37 s_34.2 .none) ?_ ?_
 ·by_cases hc : ((lenI (⟨s_34.2, .none⟩ : Sl ((Sl (Int)) × Bool))) != 2) = false
  ·rw [if_pos hc] at eq_63; rw [hc] at S
   refine wl_pure (l' := [(46, v_37), (45, .bool false), (1, v_35), (2, v_37)]) S tys tys_ok 1 (by kernel_rfl) ?_
   clear S; intro a S
   obtain ⟨y_64, ey_64, eq_63⟩ := bindS eq_63
   refine w_go S rfl (op_indexAddr_own S rfl ty26 rfl rfl rfl O_38 rfl ey_64 ?_)
   clear S; intro a g_65 H_67 R_66 S
   refine wl_pure (l' := [(48, .pointer (some ((⟨g_65, (0 : Int).toNat * GT.sz gt0, .none⟩ : Addr).add (coff gf0 0)))), (47, .pointer (some (⟨g_65, (0 : Int).toNat * GT.sz gt0, .none⟩ : Addr))), (46, v_37), (45, .bool false), (1, v_35), (2, v_37)]) S tys tys_ok 1 (by kernel_rfl) ?_
   clear S; intro a S
   refine w_go S rfl (op_load (t := (.sl (.int .u8))) (x := y_64.1) S rfl ty35 rfl rfl rfl (RepAt.add 0 (RepAt.st (t := gf0) R_66)) ?_)
   clear S; intro a v_68 R_69 S
   refine w_go S rfl (op_buildSlice (K := K) (e := (.int .u8)) (vs := [.int .u8 1, .int .u8 2]) (xs := [1, 2]) S W rfl ty35 rfl rfl (by kernel_rfl) rfl rfl rfl rfl rfl ⟨(RepV.mkInt (by decide)), (RepV.mkInt (by decide)), trivial⟩ ?_)
   clear S; intro a w_73 v_70 hb_72 R_71 S
   replace R_69 := R_69.step hb_72
   replace O_36 := O_36.step hb_72
   replace O_38 := O_38.step hb_72
   replace W := W.step hb_72
   obtain ⟨t_74, et_74, eq_63⟩ := bindS eq_63
   refine w_go S rfl (op_call (vs := [v_68, v_70]) S rfl cb22 rfl rfl rfl (c22 (Kx K w.heap.size [v_37.ownBlock, v_35.ownBlock]) n w_73 y_64.1 _ R_69 (⟨[1, 2], some 2⟩ : Sl (Int)) _ R_71 et_74) ?_)
   rintro _ w_78 ⟨v_75, rfl, R_76, hb_77⟩; refine ⟨_, rfl, ?_⟩
   replace R_76 := RepV.back R_76 W
   clear S; intro a S
   replace R_69 := R_69.step hb_77
   replace R_71 := R_71.step hb_77
   replace O_36 := O_36.step hb_77
   replace O_38 := O_38.step hb_77
   replace W := W.step hb_77
   obtain rfl := RepV.bool R_76
   refine wl_pureK (l' := [(53, .bool (!t_74)), (1, v_35), (2, v_37)]) S tys tys_ok 2 [53, 1, 2] (by kernel_rfl) ?_
   clear S; intro a S
   obtain rfl := Option.some.inj eq_63
   exact ⟨S.sub (by exact ⟨rfl, rfl, rfl, trivial⟩), W, O_36, O_38⟩
  ·rw [if_neg hc] at eq_63; rw [show ((lenI (⟨s_34.2, .none⟩ : Sl ((Sl (Int)) × Bool))) != 2) = true from (by simpa using hc)] at S
   refine wl_pureK (l' := [(53, .bool true), (1, v_35), (2, v_37)]) S tys tys_ok 8 [53, 1, 2] (by kernel_rfl) ?_
   clear S; intro a S
   obtain rfl := Option.some.inj eq_63
   exact ⟨S.sub (by exact ⟨rfl, rfl, rfl, trivial⟩), W, O_36, O_38⟩
 clear S W eq_63; rintro a w_79 ⟨S, W, O_36, O_38⟩
 refine wl_pure (l' := [(54, .bool q_63), (53, .bool q_63), (1, v_35), (2, v_37)]) S tys tys_ok 1 (by kernel_rfl) ?_
 clear S; intro a S
 obtain ⟨q_80, eq_80, h⟩ := bindS h
 refine seg 8 (fun a_ w_ => St 140 a_ [(62, .bool q_80), (1, v_35), (2, v_37)] ∧ Wd w w_ [v_37.ownBlock, v_35.ownBlock] ∧ Ow gt2 37 w_ w.heap.size (Kx K w.heap.size [v_37.ownBlock, v_35.ownBlock]) v_35 s_34.1 .none ∧ Ow gt0 39 w_ w.heap.size (Kx K w.heap.size [v_37.ownBlock, v_35.ownBlock]) v_37 s_34.2 .none) ?_ ?_
 ·by_cases hc : q_63 = false
  ·rw [if_pos hc] at eq_80; rw [hc] at S
   refine wl_pure (l' := [(55, v_37), (54, .bool false), (53, .bool false), (1, v_35), (2, v_37)]) S tys tys_ok 1 (by kernel_rfl) ?_
   clear S; intro a S
   obtain ⟨y_81, ey_81, eq_80⟩ := bindS eq_80
   refine w_go S rfl (op_indexAddr_own S rfl ty26 rfl rfl rfl O_38 rfl ey_81 ?_)
   clear S; intro a g_82 H_84 R_83 S
   refine wl_pureK (l' := [(57, .pointer (some ((⟨g_82, (1 : Int).toNat * GT.sz gt0, .none⟩ : Addr).add (coff gf0 0)))), (54, .bool false), (1, v_35), (2, v_37)]) S tys tys_ok 1 [57, 54, 1, 2] (by kernel_rfl) ?_
   clear S; intro a S
   refine w_go S rfl (op_load (t := (.sl (.int .u8))) (x := y_81.1) S rfl ty35 rfl rfl rfl (RepAt.add 0 (RepAt.st (t := gf0) R_83)) ?_)
   clear S; intro a v_85 R_86 S
   refine w_go S rfl (op_buildSlice (K := K) (e := (.int .u8)) (vs := [.int .u8 1]) (xs := [1]) S W rfl ty35 rfl rfl (by kernel_rfl) rfl rfl rfl rfl rfl ⟨(RepV.mkInt (by decide)), trivial⟩ ?_)
   clear S; intro a w_90 v_87 hb_89 R_88 S
   replace R_86 := R_86.step hb_89
   replace O_36 := O_36.step hb_89
   replace O_38 := O_38.step hb_89
   replace W := W.step hb_89
   obtain ⟨t_91, et_91, eq_80⟩ := bindS eq_80
   refine w_go S rfl (op_call (vs := [v_85, v_87]) S rfl cb22 rfl rfl rfl (c22 (Kx K w.heap.size [v_37.ownBlock, v_35.ownBlock]) n w_90 y_81.1 _ R_86 (⟨[1], some 1⟩ : Sl (Int)) _ R_88 et_91) ?_)
   rintro _ w_95 ⟨v_92, rfl, R_93, hb_94⟩; refine ⟨_, rfl, ?_⟩
   replace R_93 := RepV.back R_93 W
   clear S; intro a S
   replace R_86 := R_86.step hb_94
   replace R_88 := R_88.step hb_94
   replace O_36 := O_36.step hb_94
   replace O_38 := O_38.step hb_94
   replace W := W.step hb_94
   obtain rfl := RepV.bool R_93
   refine wl_pureK (l' := [(62, .bool (!t_91)), (1, v_35), (2, v_37)]) S tys tys_ok 2 [62, 1, 2] (by kernel_rfl) ?_
   clear S; intro a S
   obtain rfl := Option.some.inj eq_80
   exact ⟨S.sub (by exact ⟨rfl, rfl, rfl, trivial⟩), W, O_36, O_38⟩
  ·rw [if_neg hc] at eq_80; rw [show q_63 = true from (by simpa using hc)] at S
   refine wl_pureK (l' := [(62, .bool true), (1, v_35), (2, v_37)]) S tys tys_ok 8 [62, 1, 2] (by kernel_rfl) ?_
   clear S; intro a S
   obtain rfl := Option.some.inj eq_80
   exact ⟨S.sub (by exact ⟨rfl, rfl, rfl, trivial⟩), W, O_36, O_38⟩
 clear S W eq_80; rintro a w_96 ⟨S, W, O_36, O_38⟩
 refine wl_pure (l' := [(63, .bool q_80), (62, .bool q_80), (1, v_35), (2, v_37)]) S tys tys_ok 1 (by kernel_rfl) ?_
 clear S; intro a S
 obtain ⟨q_97, eq_97, h⟩ := bindS h
 refine seg 5 (fun a_ w_ => w_96 = w_ ∧ St 140 a_ [(68, .bool q_97), (1, v_35), (2, v_37)]) ?_ ?_
 ·by_cases hc : q_80 = false
  ·rw [if_pos hc] at eq_97; rw [hc] at S
   refine wl_pure (l' := [(64, v_37), (63, .bool false), (62, .bool false), (1, v_35), (2, v_37)]) S tys tys_ok 1 (by kernel_rfl) ?_
   clear S; intro a S
   obtain ⟨y_98, ey_98, eq_97⟩ := bindS eq_97
   refine w_go S rfl (op_indexAddr_own S rfl ty26 rfl rfl rfl O_38 rfl ey_98 ?_)
   clear S; intro a g_99 H_101 R_100 S
   refine wl_pureK (l' := [(66, .pointer (some ((⟨g_99, (0 : Int).toNat * GT.sz gt0, .none⟩ : Addr).add (coff gf0 1)))), (63, .bool false), (1, v_35), (2, v_37)]) S tys tys_ok 1 [66, 63, 1, 2] (by kernel_rfl) ?_
   clear S; intro a S
   refine w_go S rfl (op_load (t := .bool) (x := y_98.2) S rfl ty4 rfl rfl rfl (RepAt.add 1 (RepAt.st (t := gf0) R_100)) ?_)
   clear S; intro a v_102 R_103 S
   obtain rfl := RepV.bool R_103
   refine wl_pureK (l' := [(68, .bool y_98.2), (1, v_35), (2, v_37)]) S tys tys_ok 1 [68, 1, 2] (by kernel_rfl) ?_
   clear S; intro a S
   obtain rfl := Option.some.inj eq_97
   exact ⟨rfl, S.sub (by exact ⟨rfl, rfl, rfl, trivial⟩)⟩
  ·rw [if_neg hc] at eq_97; rw [show q_80 = true from (by simpa using hc)] at S
   refine wl_pureK (l' := [(68, .bool true), (1, v_35), (2, v_37)]) S tys tys_ok 5 [68, 1, 2] (by kernel_rfl) ?_
   clear S; intro a S
   obtain rfl := Option.some.inj eq_97
   exact ⟨rfl, S.sub (by exact ⟨rfl, rfl, rfl, trivial⟩)⟩
 clear S eq_97; rintro a _ ⟨rfl, S⟩
 refine wl_pure (l' := [(69, .bool q_97), (68, .bool q_97), (1, v_35), (2, v_37)]) S tys tys_ok 1 (by kernel_rfl) ?_
 clear S; intro a S
 obtain ⟨q_104, eq_104, h⟩ := bindS h
 refine seg 5 (fun a_ w_ => w_96 = w_ ∧ St 140 a_ [(74, .bool q_104), (1, v_35)]) ?_ ?_
 ·by_cases hc : q_97 = false
  ·rw [if_pos hc] at eq_104; rw [hc] at S
   refine wl_pure (l' := [(70, v_37), (69, .bool false), (68, .bool false), (1, v_35), (2, v_37)]) S tys tys_ok 1 (by kernel_rfl) ?_
   clear S; intro a S
   obtain ⟨y_105, ey_105, eq_104⟩ := bindS eq_104
   refine w_go S rfl (op_indexAddr_own S rfl ty26 rfl rfl rfl O_38 rfl ey_105 ?_)
   clear S; intro a g_106 H_108 R_107 S
   refine wl_pureK (l' := [(72, .pointer (some ((⟨g_106, (1 : Int).toNat * GT.sz gt0, .none⟩ : Addr).add (coff gf0 1)))), (69, .bool false), (1, v_35)]) S tys tys_ok 1 [72, 69, 1] (by kernel_rfl) ?_
   clear S; intro a S
   refine w_go S rfl (op_load (t := .bool) (x := y_105.2) S rfl ty4 rfl rfl rfl (RepAt.add 1 (RepAt.st (t := gf0) R_107)) ?_)
   clear S; intro a v_109 R_110 S
   obtain rfl := RepV.bool R_110
   refine wl_pureK (l' := [(74, .bool y_105.2), (1, v_35)]) S tys tys_ok 1 [74, 1] (by kernel_rfl) ?_
   clear S; intro a S
   obtain rfl := Option.some.inj eq_104
   exact ⟨rfl, S.sub (by exact ⟨rfl, rfl, trivial⟩)⟩
  ·rw [if_neg hc] at eq_104; rw [show q_97 = true from (by simpa using hc)] at S
   refine wl_pureK (l' := [(74, .bool true), (1, v_35)]) S tys tys_ok 5 [74, 1] (by kernel_rfl) ?_
   clear S; intro a S
   obtain rfl := Option.some.inj eq_104
   exact ⟨rfl, S.sub (by exact ⟨rfl, rfl, trivial⟩)⟩
 clear S eq_104; rintro a _ ⟨rfl, S⟩
 refine wpList_nil ?_
 refine then_n ?_
 refine wp_cond_split (S.eval (show ev _ _ = some (.bool q_104) from rfl)) ?_ ?_
 ·intro hc
  rw [if_pos hc] at h
  refine wp_seq ?_
  refine wp_region_lit ?_
  refine wl_pure (l' := [(0, .bool false), (74, .bool q_104), (1, v_35)]) S tys tys_ok 1 (by kernel_rfl) ?_
  clear S; intro a S
  refine wpList_nil ?_
  refine then_n ?_
  replace S := S.sub (l' := [(0, .bool false)]) (by exact ⟨rfl, trivial⟩)
  refine wp_ret ?_
  refine then_r ?_
  obtain rfl := Option.some.inj h
  exact b_ret1 S rfl rfl ⟨_, rfl, RepV.mkBool, W.below⟩
 ·intro hc
  rw [if_neg (Bool.eq_false_iff.1 hc)] at h
  refine wp_skip ?_
  refine then_n ?_
  replace S := S.sub (l' := [(1, v_35)]) (by exact ⟨rfl, trivial⟩)
  refine wp_seq ?_
  refine wp_region_lit ?_
  refine wl_pure (l' := [(76, v_35), (1, v_35)]) S tys tys_ok 1 (by kernel_rfl) ?_
  clear S; intro a S
  refine w_go S rfl (op_buildSlice (K := K) (e := (.int .u8)) (vs := [.int .u8 1, .int .u8 2]) (xs := [1, 2]) S W rfl ty35 rfl rfl (by kernel_rfl) rfl rfl rfl rfl rfl ⟨(RepV.mkInt (by decide)), (RepV.mkInt (by decide)), trivial⟩ ?_)
  clear S; intro a w_114 v_111 hb_113 R_112 S
  replace O_36 := O_36.step hb_113
  replace W := W.step hb_113
  obtain ⟨t_115, et_115, h⟩ := bindS h
  refine w_go S rfl (op_call (vs := [v_35, v_111]) S rfl cb18 rfl rfl rfl (c18 (Kx K w.heap.size [v_37.ownBlock]) n w_114 (⟨s_34.1, .none⟩ : Sl ((Sl (Int)) × Bool × Bool × Bool × Int)) _ (O_36.pubAt W 1 rfl) (⟨[1, 2], some 2⟩ : Sl (Int)) _ (R_112.lessAt 1) et_115) ?_)
  rintro _ w_123 ⟨v_116, v_117, v_118, rfl, R_119, R_120, R_121, hb_122⟩; refine ⟨_, rfl, ?_⟩
  have NO_ := newO_of R_119 (Nat.le_refl _) hb_122
  replace R_119 := Ow.backO R_119 (W.lessAt 1)
  replace R_120 := RepV.backO R_120 (W.lessAt 1)
  replace R_121 := RepV.backO R_121 (W.lessAt 1)
  clear S; intro a S
  replace R_112 := R_112.newO NO_
  replace O_36 := O_36.newO NO_
  replace W := W.newO NO_
  clear NO_
  obtain ⟨rfl, GR_121⟩ := RepV.int R_121
  refine wl_pureK (l' := [(9, .int .i64 t_115.2.2), (1, v_35)]) S tys tys_ok 7 [9, 1] (by kernel_rfl) ?_
  clear S; intro a S
  refine wpList_nil ?_
  refine then_n ?_
  refine wp_seq ?_
  refine wp_region_lit ?_
  refine wl_pure (l' := [(83, v_35), (9, .int .i64 t_115.2.2), (1, v_35)]) S tys tys_ok 1 (by kernel_rfl) ?_
  clear S; intro a S
  refine w_go S rfl (op_buildSlice (K := K) (e := (.int .u8)) (vs := [.int .u8 1, .int .u8 2]) (xs := [1, 2]) S W rfl ty35 rfl rfl (by kernel_rfl) rfl rfl rfl rfl rfl ⟨(RepV.mkInt (by decide)), (RepV.mkInt (by decide)), trivial⟩ ?_)
  clear S; intro a w_127 v_124 hb_126 R_125 S
  replace O_36 := O_36.step hb_126
  replace W := W.step hb_126
  obtain ⟨t_128, et_128, h⟩ := bindS h
  refine w_go S rfl (op_call (vs := [v_35, v_124, .bool true]) S rfl cb17 rfl rfl rfl (c17 (Kx K w.heap.size [v_116.ownBlock, v_37.ownBlock]) n w_127 (⟨s_34.1, .none⟩ : Sl ((Sl (Int)) × Bool × Bool × Bool × Int)) _ (O_36.pubAt W 2 rfl) (⟨[1, 2], some 2⟩ : Sl (Int)) _ (R_125.lessAt 2) true et_128) ?_)
  rintro _ w_136 ⟨v_129, v_130, v_131, rfl, R_132, R_133, R_134, hb_135⟩; refine ⟨_, rfl, ?_⟩
  have NO_ := newO_of R_132 (Nat.le_refl _) hb_135
  replace R_132 := Ow.backO R_132 (W.lessAt 2)
  replace R_133 := RepV.backO R_133 (W.lessAt 2)
  replace R_134 := RepV.backO R_134 (W.lessAt 2)
  clear S; intro a S
  replace R_125 := R_125.newO NO_
  replace O_36 := O_36.newO NO_
  replace W := W.newO NO_
  clear NO_
  obtain ⟨rfl, GR_134⟩ := RepV.int R_134
  refine wl_pureK (l' := [(12, .int .i64 t_128.2.2), (11, v_130), (10, v_129), (9, .int .i64 t_115.2.2), (1, v_35)]) S tys tys_ok 7 [12, 11, 10, 9, 1] (by kernel_rfl) ?_
  clear S; intro a S
  refine wpList_nil ?_
  refine then_n ?_
  refine wp_seq ?_
  refine wp_region_lit ?_
  refine w_go S rfl (op_buildSlice (K := K) (e := (.int .u8)) (vs := [.int .u8 1]) (xs := [1]) S W rfl ty35 rfl rfl (by kernel_rfl) rfl rfl rfl rfl rfl ⟨(RepV.mkInt (by decide)), trivial⟩ ?_)
  clear S; intro a w_140 v_137 hb_139 R_138 S
  replace R_133 := R_133.step hb_139
  replace O_36 := O_36.step hb_139
  replace R_132 := R_132.step hb_139
  replace W := W.step hb_139
  refine w_go S rfl (op_build (K := (Kx K w.heap.size [v_129.ownBlock, v_116.ownBlock, v_37.ownBlock, v_35.ownBlock])) (f := gf0) (z0 := (⟨[], some 0⟩, false)) (x := ((⟨[1], some 1⟩ : Sl (Int)), true)) (vs := [v_137, .bool true]) S _ rfl ty39 z39 (fun w K => ⟨[.slice .none 0 0], [.bool false], rfl, ⟨.none, 0, 0, rfl, rfl, Nat.le_refl _, by decide, fun k h => Option.some.inj h, .inl rfl⟩, rfl⟩) rfl rfl rfl [(0, v_137), (1, .bool true)] rfl ⟨_, R_138, rfl, rfl, ⟨_, RepV.mkBool, rfl, rfl, rfl⟩⟩ ?_)
  clear S; intro a v_141 R_142 S
  refine w_go S rfl (op_buildSlice (K := K) (e := (.int .u8)) (vs := [.int .u8 1, .int .u8 2]) (xs := [1, 2]) S W rfl ty35 rfl rfl (by kernel_rfl) rfl rfl rfl rfl rfl ⟨(RepV.mkInt (by decide)), (RepV.mkInt (by decide)), trivial⟩ ?_)
  clear S; intro a w_146 v_143 hb_145 R_144 S
  replace R_133 := R_133.step hb_145
  replace R_138 := R_138.step hb_145
  replace R_142 := R_142.step hb_145
  replace O_36 := O_36.step hb_145
  replace R_132 := R_132.step hb_145
  replace W := W.step hb_145
  refine w_go S rfl (op_build (K := (Kx K w.heap.size [v_129.ownBlock, v_116.ownBlock, v_37.ownBlock, v_35.ownBlock])) (f := gf0) (z0 := (⟨[], some 0⟩, false)) (x := ((⟨[1, 2], some 2⟩ : Sl (Int)), true)) (vs := [v_143, .bool true]) S _ rfl ty39 z39 (fun w K => ⟨[.slice .none 0 0], [.bool false], rfl, ⟨.none, 0, 0, rfl, rfl, Nat.le_refl _, by decide, fun k h => Option.some.inj h, .inl rfl⟩, rfl⟩) rfl rfl rfl [(0, v_143), (1, .bool true)] rfl ⟨_, R_144, rfl, rfl, ⟨_, RepV.mkBool, rfl, rfl, rfl⟩⟩ ?_)
  clear S; intro a v_147 R_148 S
  refine w_go S rfl (op_buildSlice (K := K) (e := gt0) (vs := [v_141, v_147]) (xs := [((⟨[1], some 1⟩ : Sl (Int)), true), ((⟨[1, 2], some 2⟩ : Sl (Int)), true)]) S W rfl ty26 rfl rfl (by kernel_rfl) rfl rfl rfl rfl rfl ⟨R_142, R_148, trivial⟩ ?_)
  clear S; intro a w_152 v_149 hb_151 R_150 S
  replace R_133 := R_133.step hb_151
  replace R_138 := R_138.step hb_151
  replace R_142 := R_142.step hb_151
  replace R_144 := R_144.step hb_151
  replace R_148 := R_148.step hb_151
  replace O_36 := O_36.step hb_151
  replace R_132 := R_132.step hb_151
  replace W := W.step hb_151
  refine wl_pureK (l' := [(13, v_149), (12, .int .i64 t_128.2.2), (11, v_130), (10, v_129), (9, .int .i64 t_115.2.2), (1, v_35)]) S tys tys_ok 1 [13, 12, 11, 10, 9, 1] (by kernel_rfl) ?_
  clear S; intro a S
  refine wpList_nil ?_
  refine then_n ?_
  refine wp_seq ?_
  refine wp_seq ?_
  refine wp_region_lit ?_
  refine wl_pureK (l' := [(96, .bool (t_115.2.2 != 6)), (13, v_149), (12, .int .i64 t_128.2.2), (11, v_130), (10, v_129), (1, v_35)]) S tys tys_ok 3 [96, 13, 12, 11, 10, 1] (by kernel_rfl) ?_
  clear S; intro a S
  obtain ⟨q_153, eq_153, h⟩ := bindS h
  refine seg 3 (fun a_ w_ => w_152 = w_ ∧ St 140 a_ [(99, .bool q_153), (13, v_149), (11, v_130), (10, v_129), (1, v_35)]) ?_ ?_
  ·by_cases hc : (t_115.2.2 != 6) = false
   ·rw [if_pos hc] at eq_153; rw [hc] at S
    refine wl_pureK (l' := [(99, .bool (t_128.2.2 != 0)), (13, v_149), (11, v_130), (10, v_129), (1, v_35)]) S tys tys_ok 3 [99, 13, 11, 10, 1] (by kernel_rfl) ?_
    clear S; intro a S
    obtain rfl := Option.some.inj eq_153
    exact ⟨rfl, S.sub (by exact ⟨rfl, rfl, rfl, rfl, rfl, trivial⟩)⟩
   ·rw [if_neg hc] at eq_153; rw [show (t_115.2.2 != 6) = true from (by simpa using hc)] at S
    refine wl_pureK (l' := [(99, .bool true), (13, v_149), (11, v_130), (10, v_129), (1, v_35)]) S tys tys_ok 3 [99, 13, 11, 10, 1] (by kernel_rfl) ?_
    clear S; intro a S
    obtain rfl := Option.some.inj eq_153
    exact ⟨rfl, S.sub (by exact ⟨rfl, rfl, rfl, rfl, rfl, trivial⟩)⟩
  clear S eq_153; rintro a _ ⟨rfl, S⟩
  refine wl_pure (l' := [(100, .bool q_153), (99, .bool q_153), (13, v_149), (11, v_130), (10, v_129), (1, v_35)]) S tys tys_ok 1 (by kernel_rfl) ?_
  clear S; intro a S
  obtain ⟨q_154, eq_154, h⟩ := bindS h
  refine seg 5 (fun a_ w_ => St 140 a_ [(105, .bool q_154), (13, v_149), (10, v_129), (1, v_35)] ∧ Wd w w_ [v_129.ownBlock, v_116.ownBlock, v_37.ownBlock, v_35.ownBlock] ∧ RepV (.sl gt0) w_ (Kx K w.heap.size [v_129.ownBlock, v_116.ownBlock, v_37.ownBlock, v_35.ownBlock]) v_149 (⟨[((⟨[1], some 1⟩ : Sl (Int)), true), ((⟨[1, 2], some 2⟩ : Sl (Int)), true)], some 2⟩ : Sl ((Sl (Int)) × Bool)) ∧ Ow gt2 37 w_ w.heap.size (Kx K w.heap.size [v_129.ownBlock, v_116.ownBlock, v_37.ownBlock]) v_129 t_128.1.xs t_128.1.cap ∧ Ow gt2 37 w_ w.heap.size (Kx K w.heap.size [v_129.ownBlock, v_116.ownBlock, v_37.ownBlock, v_35.ownBlock]) v_35 s_34.1 .none) ?_ ?_
  ·by_cases hc : q_153 = false
   ·rw [if_pos hc] at eq_154; rw [hc] at S
    refine wl_pure (l' := [(102, v_149), (101, v_130), (100, .bool false), (99, .bool false), (13, v_149), (11, v_130), (10, v_129), (1, v_35)]) S tys tys_ok 2 (by kernel_rfl) ?_
    clear S; intro a S
    obtain ⟨t_155, et_155, eq_154⟩ := bindS eq_154
    refine w_go S rfl (op_call (vs := [v_130, v_149]) S rfl cb21 rfl rfl rfl (c21 (Kx K w.heap.size []) n w_152 t_128.2.1 _ R_133.out (⟨[((⟨[1], some 1⟩ : Sl (Int)), true), ((⟨[1, 2], some 2⟩ : Sl (Int)), true)], some 2⟩ : Sl ((Sl (Int)) × Bool)) _ R_150.out et_155) ?_)
    rintro _ w_159 ⟨v_156, rfl, R_157, hb_158⟩; refine ⟨_, rfl, ?_⟩
    clear S; intro a S
    replace R_150 := R_150.step hb_158
    replace R_133 := R_133.step hb_158
    replace R_132 := R_132.step hb_158
    replace O_36 := O_36.step hb_158
    replace W := W.step hb_158
    obtain rfl := RepV.bool R_157
    refine wl_pureK (l' := [(105, .bool (!t_155)), (13, v_149), (10, v_129), (1, v_35)]) S tys tys_ok 2 [105, 13, 10, 1] (by kernel_rfl) ?_
    clear S; intro a S
    obtain rfl := Option.some.inj eq_154
    exact ⟨S.sub (by exact ⟨rfl, rfl, rfl, rfl, trivial⟩), W, R_150, R_132, O_36⟩
   ·rw [if_neg hc] at eq_154; rw [show q_153 = true from (by simpa using hc)] at S
    refine wl_pureK (l' := [(105, .bool true), (13, v_149), (10, v_129), (1, v_35)]) S tys tys_ok 5 [105, 13, 10, 1] (by kernel_rfl) ?_
    clear S; intro a S
    obtain rfl := Option.some.inj eq_154
    exact ⟨S.sub (by exact ⟨rfl, rfl, rfl, rfl, trivial⟩), W, R_150, R_132, O_36⟩
  clear S W eq_154; rintro a w_160 ⟨S, W, R_150, R_132, O_36⟩
  refine wl_pure (l' := [(106, .bool q_154), (105, .bool q_154), (13, v_149), (10, v_129), (1, v_35)]) S tys tys_ok 1 (by kernel_rfl) ?_
  clear S; intro a S
  obtain ⟨q_161, eq_161, h⟩ := bindS h
  refine seg 4 (fun a_ w_ => w_160 = w_ ∧ St 140 a_ [(110, .bool q_161), (13, v_149), (10, v_129), (1, v_35)]) ?_ ?_
  ·by_cases hc : q_154 = false
   ·rw [if_pos hc] at eq_161; rw [hc] at S
    refine wl_pure (l' := [(107, v_129), (106, .bool false), (105, .bool false), (13, v_149), (10, v_129), (1, v_35)]) S tys tys_ok 1 (by kernel_rfl) ?_
    clear S; intro a S
    refine w_go S rfl (op_len (K := _) S rfl ty25 rfl rfl rfl R_132.read ?_)
    clear S; intro a G_162 S
    refine wl_pureK (l' := [(110, .bool ((lenI (⟨t_128.1.xs, t_128.1.cap⟩ : Sl ((Sl (Int)) × Bool × Bool × Bool × Int))) != 2)), (13, v_149), (10, v_129), (1, v_35)]) S tys tys_ok 2 [110, 13, 10, 1] (by kernel_rfl) ?_
    clear S; intro a S
    obtain rfl := Option.some.inj eq_161
    exact ⟨rfl, S.sub (by exact ⟨rfl, rfl, rfl, rfl, trivial⟩)⟩
   ·rw [if_neg hc] at eq_161; rw [show q_154 = true from (by simpa using hc)] at S
    refine wl_pureK (l' := [(110, .bool true), (13, v_149), (10, v_129), (1, v_35)]) S tys tys_ok 4 [110, 13, 10, 1] (by kernel_rfl) ?_
    clear S; intro a S
    obtain rfl := Option.some.inj eq_161
    exact ⟨rfl, S.sub (by exact ⟨rfl, rfl, rfl, rfl, trivial⟩)⟩
  clear S eq_161; rintro a _ ⟨rfl, S⟩
  refine wl_pure (l' := [(111, .bool q_161), (110, .bool q_161), (13, v_149), (10, v_129), (1, v_35)]) S tys tys_ok 1 (by kernel_rfl) ?_
  clear S; intro a S
  obtain ⟨q_163, eq_163, h⟩ := bindS h
  refine seg 4 (fun a_ w_ => w_160 = w_ ∧ St 140 a_ [(115, .bool q_163), (13, v_149), (10, v_129), (1, v_35)]) ?_ ?_
  ·by_cases hc : q_161 = false
   ·rw [if_pos hc] at eq_163; rw [hc] at S
    refine wl_pure (l' := [(112, v_35), (111, .bool false), (110, .bool false), (13, v_149), (10, v_129), (1, v_35)]) S tys tys_ok 1 (by kernel_rfl) ?_
    clear S; intro a S
    refine w_go S rfl (op_len (K := _) S rfl ty25 rfl rfl rfl O_36.read ?_)
    clear S; intro a G_164 S
    refine wl_pureK (l' := [(115, .bool ((lenI (⟨s_34.1, .none⟩ : Sl ((Sl (Int)) × Bool × Bool × Bool × Int))) != 2)), (13, v_149), (10, v_129), (1, v_35)]) S tys tys_ok 2 [115, 13, 10, 1] (by kernel_rfl) ?_
    clear S; intro a S
    obtain rfl := Option.some.inj eq_163
    exact ⟨rfl, S.sub (by exact ⟨rfl, rfl, rfl, rfl, trivial⟩)⟩
   ·rw [if_neg hc] at eq_163; rw [show q_161 = true from (by simpa using hc)] at S
    refine wl_pureK (l' := [(115, .bool true), (13, v_149), (10, v_129), (1, v_35)]) S tys tys_ok 4 [115, 13, 10, 1] (by kernel_rfl) ?_
    clear S; intro a S
    obtain rfl := Option.some.inj eq_163
    exact ⟨rfl, S.sub (by exact ⟨rfl, rfl, rfl, rfl, trivial⟩)⟩
  clear S eq_163; rintro a _ ⟨rfl, S⟩
  refine wl_pure (l' := [(116, .bool q_163), (115, .bool q_163), (13, v_149), (10, v_129), (1, v_35)]) S tys tys_ok 1 (by kernel_rfl) ?_
  clear S; intro a S
  obtain ⟨q_165, eq_165, h⟩ := bindS h
  refine seg 6 (fun a_ w_ => w_160 = w_ ∧ St 140 a_ [(122, .bool q_165), (13, v_149), (1, v_35)]) ?_ ?_
  ·by_cases hc : q_163 = false
   ·rw [if_pos hc] at eq_165; rw [hc] at S
    refine wl_pure (l' := [(117, v_129), (116, .bool false), (115, .bool false), (13, v_149), (10, v_129), (1, v_35)]) S tys tys_ok 1 (by kernel_rfl) ?_
    clear S; intro a S
    obtain ⟨y_166, ey_166, eq_165⟩ := bindS eq_165
    refine w_go S rfl (op_indexAddr_own S rfl ty25 rfl rfl rfl R_132 rfl ey_166 ?_)
    clear S; intro a g_167 H_169 R_168 S
    refine wl_pureK (l' := [(119, .pointer (some ((⟨g_167, (1 : Int).toNat * GT.sz gt2, .none⟩ : Addr).add (coff gf2 1)))), (116, .bool false), (13, v_149), (1, v_35)]) S tys tys_ok 1 [119, 116, 13, 1] (by kernel_rfl) ?_
    clear S; intro a S
    refine w_go S rfl (op_load (t := .bool) (x := y_166.2.1) S rfl ty4 rfl rfl rfl (RepAt.add 1 (RepAt.st (t := gf2) R_168)) ?_)
    clear S; intro a v_170 R_171 S
    obtain rfl := RepV.bool R_171
    refine wl_pureK (l' := [(122, .bool (!y_166.2.1)), (13, v_149), (1, v_35)]) S tys tys_ok 2 [122, 13, 1] (by kernel_rfl) ?_
    clear S; intro a S
    obtain rfl := Option.some.inj eq_165
    exact ⟨rfl, S.sub (by exact ⟨rfl, rfl, rfl, trivial⟩)⟩
   ·rw [if_neg hc] at eq_165; rw [show q_163 = true from (by simpa using hc)] at S
    refine wl_pureK (l' := [(122, .bool true), (13, v_149), (1, v_35)]) S tys tys_ok 6 [122, 13, 1] (by kernel_rfl) ?_
    clear S; intro a S
    obtain rfl := Option.some.inj eq_165
    exact ⟨rfl, S.sub (by exact ⟨rfl, rfl, rfl, trivial⟩)⟩
  clear S eq_165; rintro a _ ⟨rfl, S⟩
  refine wpList_nil ?_
  refine then_n ?_
  refine wp_cond_split (S.eval (show ev _ _ = some (.bool q_165) from rfl)) ?_ ?_
  ·intro hc
   rw [if_pos hc] at h
   refine wp_seq ?_
   refine wp_region_lit ?_
   refine wl_pureK (l' := [(0, .bool false)]) S tys tys_ok 1 [0] (by kernel_rfl) ?_
   clear S; intro a S
   refine wpList_nil ?_
   refine then_n ?_
   refine wp_ret ?_
   refine then_r ?_
   obtain rfl := Option.some.inj h
   exact b_ret1 S rfl rfl ⟨_, rfl, RepV.mkBool, W.below⟩
  ·intro hc
   rw [if_neg (Bool.eq_false_iff.1 hc)] at h
   refine wp_skip ?_
   refine then_n ?_
   replace S := S.sub (l' := [(13, v_149), (1, v_35)]) (by exact ⟨rfl, rfl, trivial⟩)
   refine wp_seq ?_
   refine wp_region_lit ?_
   refine wl_pure (l' := [(123, v_35), (13, v_149), (1, v_35)]) S tys tys_ok 1 (by kernel_rfl) ?_
   clear S; intro a S
   obtain ⟨y_172, ey_172, h⟩ := bindS h
   refine w_go S rfl (op_indexAddr_own S rfl ty25 rfl rfl rfl O_36 rfl ey_172 ?_)
   clear S; intro a g_173 H_175 R_174 S
   refine wl_pure (l' := [(125, .pointer (some ((⟨g_173, (1 : Int).toNat * GT.sz gt2, .none⟩ : Addr).add (coff gf2 2)))), (124, .pointer (some (⟨g_173, (1 : Int).toNat * GT.sz gt2, .none⟩ : Addr))), (123, v_35), (13, v_149), (1, v_35)]) S tys tys_ok 1 (by kernel_rfl) ?_
   clear S; intro a S
   refine w_go S rfl (op_store_own (t' := .bool) S rfl rfl ty4 rfl (addr_add _ _ _) rfl O_36 H_175 3 rfl (idx_some ey_172).2.1 (Ln.st (Ln.comp 2)) (RepV.mkBool : RepV .bool w_160 (Kx K w.heap.size [v_129.ownBlock, v_116.ownBlock, v_37.ownBlock, v_35.ownBlock]) _ true) ?_)
   intro w_176 hw_177 hm_179 O_178
   replace R_150 := R_150.wrote hw_177 hm_179
   replace W := W.wrote hw_177 hm_179
   replace O_178 : Ow gt2 37 w_176 w.heap.size (Kx K w.heap.size [v_129.ownBlock, v_116.ownBlock, v_37.ownBlock, v_35.ownBlock]) v_35 (s_34.1.set (1 : Int).toNat (y_172.1, y_172.2.1, true, y_172.2.2.2.1, y_172.2.2.2.2)) .none := O_178
   refine wpList_nil ?_
   refine then_n ?_
   replace S := S.sub (l' := [(13, v_149), (1, v_35)]) (by exact ⟨rfl, rfl, trivial⟩)
   refine wp_seq ?_
   refine wp_region_lit ?_
   refine wl_pure (l' := [(127, v_35), (13, v_149), (1, v_35)]) S tys tys_ok 1 (by kernel_rfl) ?_
   clear S; intro a S
   refine w_go S rfl (op_buildSlice (K := K) (e := (.int .u8)) (vs := [.int .u8 1, .int .u8 2]) (xs := [1, 2]) S W rfl ty35 rfl rfl (by kernel_rfl) rfl rfl rfl rfl rfl ⟨(RepV.mkInt (by decide)), (RepV.mkInt (by decide)), trivial⟩ ?_)
   clear S; intro a w_183 v_180 hb_182 R_181 S
   replace R_150 := R_150.step hb_182
   replace O_178 := O_178.step hb_182
   replace W := W.step hb_182
   obtain ⟨t_184, et_184, h⟩ := bindS h
   refine w_go S rfl (op_call (vs := [v_35, v_180]) S rfl cb18 rfl rfl rfl (c18 (Kx K w.heap.size [v_129.ownBlock, v_116.ownBlock, v_37.ownBlock]) n w_183 (⟨(s_34.1.set (1 : Int).toNat (y_172.1, y_172.2.1, true, y_172.2.2.2.1, y_172.2.2.2.2)), .none⟩ : Sl ((Sl (Int)) × Bool × Bool × Bool × Int)) _ (O_178.pubAt W 3 rfl) (⟨[1, 2], some 2⟩ : Sl (Int)) _ (R_181.lessAt 3) et_184) ?_)
   rintro _ w_192 ⟨v_185, v_186, v_187, rfl, R_188, R_189, R_190, hb_191⟩; refine ⟨_, rfl, ?_⟩
   have NO_ := newO_of R_188 (Nat.le_refl _) hb_191
   replace R_188 := Ow.backO R_188 (W.lessAt 3)
   replace R_189 := RepV.backO R_189 (W.lessAt 3)
   replace R_190 := RepV.backO R_190 (W.lessAt 3)
   clear S; intro a S
   replace R_150 := R_150.newO NO_
   replace R_181 := R_181.newO NO_
   replace O_178 := O_178.newO NO_
   replace W := W.newO NO_
   clear NO_
   obtain ⟨rfl, GR_190⟩ := RepV.int R_190
   refine wl_pureK (l' := [(12, .int .i64 t_184.2.2), (11, v_186), (13, v_149)]) S tys tys_ok 6 [12, 11, 13] (by kernel_rfl) ?_
   clear S; intro a S
   refine wpList_nil ?_
   refine then_n ?_
   refine wp_seq ?_
   refine wp_region_lit ?_
   refine wl_pureK (l' := [(135, .bool (t_184.2.2 == 0)), (11, v_186), (13, v_149)]) S tys tys_ok 3 [135, 11, 13] (by kernel_rfl) ?_
   clear S; intro a S
   obtain ⟨q_193, eq_193, h⟩ := bindS h
   refine seg 4 (fun a_ w_ => St 140 a_ [(139, .bool q_193)] ∧ Wd w w_ [v_185.ownBlock, v_129.ownBlock, v_116.ownBlock, v_37.ownBlock, v_35.ownBlock]) ?_ ?_
   ·by_cases hc : (t_184.2.2 == 0) = true
    ·rw [if_pos hc] at eq_193; rw [hc] at S
     refine wl_pure (l' := [(137, v_149), (136, v_186), (135, .bool true), (11, v_186), (13, v_149)]) S tys tys_ok 2 (by kernel_rfl) ?_
     clear S; intro a S
     obtain ⟨t_194, et_194, eq_193⟩ := bindS eq_193
     refine w_go S rfl (op_call (vs := [v_186, v_149]) S rfl cb21 rfl rfl rfl (c21 (Kx K w.heap.size []) n w_192 t_184.2.1 _ R_189.out (⟨[((⟨[1], some 1⟩ : Sl (Int)), true), ((⟨[1, 2], some 2⟩ : Sl (Int)), true)], some 2⟩ : Sl ((Sl (Int)) × Bool)) _ R_150.out et_194) ?_)
     rintro _ w_198 ⟨v_195, rfl, R_196, hb_197⟩; refine ⟨_, rfl, ?_⟩
     clear S; intro a S
     replace R_150 := R_150.step hb_197
     replace R_189 := R_189.step hb_197
     replace W := W.step hb_197
     obtain rfl := RepV.bool R_196
     refine wl_pureK (l' := [(139, .bool t_194)]) S tys tys_ok 1 [139] (by kernel_rfl) ?_
     clear S; intro a S
     obtain rfl := Option.some.inj eq_193
     exact ⟨S.sub (by exact ⟨rfl, trivial⟩), W⟩
    ·rw [if_neg hc] at eq_193; rw [show (t_184.2.2 == 0) = false from Bool.eq_false_iff.2 hc] at S
     refine wl_pureK (l' := [(139, .bool false)]) S tys tys_ok 4 [139] (by kernel_rfl) ?_
     clear S; intro a S
     obtain rfl := Option.some.inj eq_193
     exact ⟨S.sub (by exact ⟨rfl, trivial⟩), W⟩
   clear S W eq_193; rintro a w_199 ⟨S, W⟩
   refine wl_pure (l' := [(0, .bool q_193), (139, .bool q_193)]) S tys tys_ok 1 (by kernel_rfl) ?_
   clear S; intro a S
   refine wpList_nil ?_
   refine then_n ?_
   replace S := S.sub (l' := [(0, .bool q_193)]) (by exact ⟨rfl, trivial⟩)
   refine wp_ret ?_
   obtain rfl := Option.some.inj h
   exact b_ret1 S rfl rfl ⟨_, rfl, RepV.mkBool, W.below⟩
theorem cb8 : callB Try.prog 8 = true := by kernel_rfl
def p20 (n : Nat) (x0 : Int) : Option ((Sl (Int))) :=
 (quoI .u8 x0 3).bind fun x_1 =>
 (remI .u8 x_1 3).bind fun x_2 =>
 (quoI .u8 x0 9).bind fun x_3 =>
 (remI .u8 x_3 3).bind fun x_4 =>
 (quoI .u8 x0 27).bind fun x_5 =>
 (remI .u8 x_5 3).bind fun x_6 =>
 (remI .u8 x0 3).bind fun x_11 =>
 (slI (⟨[IntKind.wrap .u8 (1 + x_2), IntKind.wrap .u8 (1 + x_4), IntKind.wrap .u8 (1 + x_6)], some 3⟩ : Sl (Int)) 0 (IntKind.wrap .u8 (1 + x_11))).bind fun s_14 =>
 some s_14
set_option maxHeartbeats 4000000 in
set_option maxRecDepth 100000 in
/-- plugboard/plugboardlaw32.path -/
theorem c20 (K : Nat → Prop) (n : Nat) (w : World) (x0 : Int) (G0 : InR .u8 x0) {r : (Sl (Int))} (h : p20 n x0 = some r) :
  Calls Try.prog 20 #[.int .u8 x0] w (Ret1 (.sl (.int .u8)) w (Kx K w.heap.size []) r) := by
 refine enter (args := [.int .u8 x0]) Try.func20 rfl 22 rfl rfl fun a S => ?_
 have W := Wd.start w
 unfold p20 at h
 replace S : St 22 a [(0, .int .u8 x0)] := S
 refine wp_seq ?_
 refine wp_region_lit ?_
 refine wl_pure (l' := [(2, .slice .none 0 0), (0, .int .u8 x0)]) S tys tys_ok 1 (by kernel_rfl) ?_
 clear S; intro a S
 refine wpList_nil ?_
 refine then_n ?_
 replace S := S.sub (l' := [(0, .int .u8 x0)]) (by exact ⟨rfl, trivial⟩)
 refine wp_seq ?_
 refine wp_region_lit ?_
 refine wl_pure (l' := [(4, .int .u8 x0), (0, .int .u8 x0)]) S tys tys_ok 1 (by kernel_rfl) ?_
 clear S; intro a S
 obtain ⟨x_1, ex_1, h⟩ := bindS h
 refine w_go S rfl (op_quo S .u8 rfl rfl rfl rfl rfl ex_1 ?_)
 clear S; intro a S
 obtain ⟨x_2, ex_2, h⟩ := bindS h
 refine w_go S rfl (op_rem S .u8 rfl rfl rfl rfl rfl ex_2 ?_)
 clear S; intro a S
 refine wl_pureK (l' := [(8, .int .u8 x0), (7, .int .u8 (IntKind.wrap .u8 (1 + x_2))), (0, .int .u8 x0)]) S tys tys_ok 2 [8, 7, 0] (by kernel_rfl) ?_
 clear S; intro a S
 obtain ⟨x_3, ex_3, h⟩ := bindS h
 refine w_go S rfl (op_quo S .u8 rfl rfl rfl rfl rfl ex_3 ?_)
 clear S; intro a S
 obtain ⟨x_4, ex_4, h⟩ := bindS h
 refine w_go S rfl (op_rem S .u8 rfl rfl rfl rfl rfl ex_4 ?_)
 clear S; intro a S
 refine wl_pureK (l' := [(12, .int .u8 x0), (11, .int .u8 (IntKind.wrap .u8 (1 + x_4))), (7, .int .u8 (IntKind.wrap .u8 (1 + x_2))), (0, .int .u8 x0)]) S tys tys_ok 2 [12, 11, 7, 0] (by kernel_rfl) ?_
 clear S; intro a S
 obtain ⟨x_5, ex_5, h⟩ := bindS h
 refine w_go S rfl (op_quo S .u8 rfl rfl rfl rfl rfl ex_5 ?_)
 clear S; intro a S
 obtain ⟨x_6, ex_6, h⟩ := bindS h
 refine w_go S rfl (op_rem S .u8 rfl rfl rfl rfl rfl ex_6 ?_)
 clear S; intro a S
 refine wl_pureK (l' := [(15, .int .u8 (IntKind.wrap .u8 (1 + x_6))), (11, .int .u8 (IntKind.wrap .u8 (1 + x_4))), (7, .int .u8 (IntKind.wrap .u8 (1 + x_2))), (0, .int .u8 x0)]) S tys tys_ok 1 [15, 11, 7, 0] (by kernel_rfl) ?_
 clear S; intro a S
 refine w_go S rfl (op_buildSlice (K := K) (e := (.int .u8)) (vs := [.int .u8 (IntKind.wrap .u8 (1 + x_2)), .int .u8 (IntKind.wrap .u8 (1 + x_4)), .int .u8 (IntKind.wrap .u8 (1 + x_6))]) (xs := [IntKind.wrap .u8 (1 + x_2), IntKind.wrap .u8 (1 + x_4), IntKind.wrap .u8 (1 + x_6)]) S W rfl ty34 rfl rfl (by kernel_rfl) rfl rfl rfl rfl rfl ⟨(RepV.mkInt (inR_wrap _ _)), (RepV.mkInt (inR_wrap _ _)), (RepV.mkInt (inR_wrap _ _)), trivial⟩ ?_)
 clear S; intro a w_10 v_7 hb_9 R_8 S
 replace W := W.step hb_9
 refine wl_pureK (l' := [(3, v_7), (0, .int .u8 x0)]) S tys tys_ok 1 [3, 0] (by kernel_rfl) ?_
 clear S; intro a S
 refine wpList_nil ?_
 refine then_n ?_
 refine wp_seq ?_
 refine wp_region_lit ?_
 refine wl_pure (l' := [(18, .int .u8 x0), (17, v_7), (3, v_7), (0, .int .u8 x0)]) S tys tys_ok 2 (by kernel_rfl) ?_
 clear S; intro a S
 obtain ⟨x_11, ex_11, h⟩ := bindS h
 refine w_go S rfl (op_rem S .u8 rfl rfl rfl rfl rfl ex_11 ?_)
 clear S; intro a S
 refine wl_pureK (l' := [(20, .int .u8 (IntKind.wrap .u8 (1 + x_11))), (17, v_7)]) S tys tys_ok 1 [20, 17] (by kernel_rfl) ?_
 clear S; intro a S
 obtain ⟨s_14, es_14, h⟩ := bindS h
 refine w_go S rfl (op_slice S rfl ty34 rfl rfl rfl R_8 (.inl ⟨rfl, rfl⟩) (.inr ⟨_, _, rfl, rfl⟩) es_14 ?_)
 clear S; intro a v_12 R_13 S
 refine wl_pureK (l' := [(2, v_12)]) S tys tys_ok 1 [2] (by kernel_rfl) ?_
 clear S; intro a S
 refine wpList_nil ?_
 refine then_n ?_
 refine wp_ret ?_
 obtain rfl := Option.some.inj h
 exact b_ret1 S rfl rfl ⟨_, rfl, R_13.out, W.below⟩
theorem cb20 : callB Try.prog 20 = true := by kernel_rfl
def p48_nil (n : Nat) (x1 : Int) : Option ((Sl ((Sl (Int)) × Bool × Bool × Bool × Int))) :=
 if (decide (x1 < 0)) then (.none) else (capO (⟨[], some 0⟩ : Sl ((Sl (Int)) × Bool × Bool × Bool × Int))).bind fun x_2 => (ckI .i64 (x_2 - (lenI (⟨[], some 0⟩ : Sl ((Sl (Int)) × Bool × Bool × Bool × Int))))).bind fun x_4 => (ckI .i64 (x1 - x_4)).bind fun x_5 => (if (decide (x_5 > 0)) then ((capO (⟨[], some 0⟩ : Sl ((Sl (Int)) × Bool × Bool × Bool × Int))).bind fun x_10 => (cutI ([] : List ((Sl (Int)) × Bool × Bool × Bool × Int)) x_10).bind fun l_12 => (appZ l_12 x_5 (⟨[], some 0⟩, false, false, false, 0)).bind fun l_16 => (cutI l_16 (lenI (⟨[], some 0⟩ : Sl ((Sl (Int)) × Bool × Bool × Bool × Int)))).bind fun l_22 => some l_22) else some ([])).bind fun (j_6 : (List ((Sl (Int)) × Bool × Bool × Bool × Int))) => some (⟨j_6, .none⟩ : Sl ((Sl (Int)) × Bool × Bool × Bool × Int))
set_option maxHeartbeats 4000000 in
set_option maxRecDepth 100000 in
/-- slices.Grow[plugboard/suspends.List,plugboard/suspends.Node] -/
theorem c48_nil (K : Nat → Prop) (n : Nat) (w : World) (x1 : Int) (G1 : InR .i64 x1) {r : (Sl ((Sl (Int)) × Bool × Bool × Bool × Int))} (h : p48_nil n x1 = some r) :
  Calls Try.prog 48 #[.slice .none 0 0, .int .i64 x1] w (fun e_ w_ => ∃ v0_ : Value, e_ = .returned v0_ ∧ Ow gt2 37 w_ w.heap.size (Kx K w.heap.size [v0_.ownBlock]) v0_ r.xs r.cap ∧ Below w.heap.size w w_) := by
 refine enter (args := [.slice .none 0 0, .int .i64 x1]) Try.func48 rfl 27 rfl rfl fun a S => ?_
 have W := Wd.start w
 unfold p48_nil at h
 replace S : St 27 a [(0, .slice .none 0 0), (1, .int .i64 x1)] := S
 refine wp_seq ?_
 refine wp_region_lit ?_
 refine wl_pure (l' := [(4, .slice .none 0 0), (0, .slice .none 0 0), (1, .int .i64 x1)]) S tys tys_ok 1 (by kernel_rfl) ?_
 clear S; intro a S
 refine wpList_nil ?_
 refine then_n ?_
 replace S := S.sub (l' := [(0, .slice .none 0 0), (1, .int .i64 x1)]) (by exact ⟨rfl, rfl, trivial⟩)
 refine wp_seq ?_
 refine wp_seq ?_
 refine wp_region_lit ?_
 refine wl_pure (l' := [(6, .bool (decide (x1 < 0))), (5, .int .i64 x1), (0, .slice .none 0 0), (1, .int .i64 x1)]) S tys tys_ok 2 (by kernel_rfl) ?_
 clear S; intro a S
 refine wpList_nil ?_
 refine then_n ?_
 replace S := S.sub (l' := [(6, .bool (decide (x1 < 0))), (0, .slice .none 0 0), (1, .int .i64 x1)]) (by exact ⟨rfl, rfl, rfl, trivial⟩)
 refine wp_cond_split (S.eval (show ev _ _ = some (.bool (decide (x1 < 0))) from rfl)) ?_ ?_
 ·intro hc
  rw [if_pos hc] at h
  cases h
 ·intro hc
  rw [if_neg (Bool.eq_false_iff.1 hc)] at h
  refine wp_skip ?_
  refine then_n ?_
  replace S := S.sub (l' := [(0, .slice .none 0 0), (1, .int .i64 x1)]) (by exact ⟨rfl, rfl, trivial⟩)
  refine wp_seq ?_
  refine wp_seq ?_
  refine wp_region_lit ?_
  refine wl_pure (l' := [(9, .slice .none 0 0), (8, .int .i64 x1), (0, .slice .none 0 0), (1, .int .i64 x1)]) S tys tys_ok 2 (by kernel_rfl) ?_
  clear S; intro a S
  obtain ⟨x_2, ex_2, h⟩ := bindS h
  refine w_go S rfl (op_cap (K := _) S rfl ty25 rfl rfl rfl (RepV.nil : RepV (.sl gt2) w (fun _ => True) _ _) ex_2 ?_)
  clear S; intro a G_1 S
  refine wl_pure (l' := [(11, .slice .none 0 0), (10, .int .i64 x_2), (9, .slice .none 0 0), (8, .int .i64 x1), (0, .slice .none 0 0), (1, .int .i64 x1)]) S tys tys_ok 1 (by kernel_rfl) ?_
  clear S; intro a S
  refine w_go S rfl (op_len (K := _) S rfl ty25 rfl rfl rfl (RepV.nil : RepV (.sl gt2) w (fun _ => True) _ _) ?_)
  clear S; intro a G_3 S
  obtain ⟨x_4, ex_4, h⟩ := bindS h
  refine w_go S rfl (op_arith S .i64 (x_2 - (lenI (⟨[], some 0⟩ : Sl ((Sl (Int)) × Bool × Bool × Bool × Int)))) rfl (.inr (.inl rfl)) rfl rfl rfl rfl ex_4 ?_)
  clear S; intro a S
  obtain ⟨x_5, ex_5, h⟩ := bindS h
  refine w_go S rfl (op_arith S .i64 (x1 - x_4) rfl (.inr (.inl rfl)) rfl rfl rfl rfl ex_5 ?_)
  clear S; intro a S
  refine wl_pureK (l' := [(1, .int .i64 x_5), (0, .slice .none 0 0), (1, .int .i64 x1)]) S tys tys_ok 1 [1, 0] (by kernel_rfl) ?_
  clear S; intro a S
  refine wpList_nil ?_
  refine then_n ?_
  refine wp_seq ?_
  refine wp_region_lit ?_
  refine wl_pure (l' := [(16, .bool (decide (x_5 > 0))), (15, .int .i64 x_5), (1, .int .i64 x_5), (0, .slice .none 0 0), (1, .int .i64 x1)]) S tys tys_ok 2 (by kernel_rfl) ?_
  clear S; intro a S
  refine wpList_nil ?_
  refine then_n ?_
  replace S := S.sub (l' := [(16, .bool (decide (x_5 > 0))), (1, .int .i64 x_5), (0, .slice .none 0 0)]) (by exact ⟨rfl, rfl, rfl, trivial⟩)
  obtain ⟨j_6, ej_6, h⟩ := bindS h
  refine wp_cut_ (fun a_ w_ => ∃ (v_7 : Value), St 27 a_ [(0, v_7)] ∧ Wd w w_ [v_7.ownBlock] ∧ Ow gt2 37 w_ w.heap.size (Kx K w.heap.size [v_7.ownBlock]) v_7 j_6 .none) ?_ ?_
  ·refine wp_cond_split (S.eval (show ev _ _ = some (.bool (decide (x_5 > 0))) from rfl)) ?_ ?_
   ·intro hc
    rw [if_pos hc] at ej_6
    refine wp_region_lit ?_
    refine wl_pure (l' := [(18, .slice .none 0 0), (17, .slice .none 0 0), (16, .bool (decide (x_5 > 0))), (1, .int .i64 x_5), (0, .slice .none 0 0)]) S tys tys_ok 2 (by kernel_rfl) ?_
    clear S; intro a S
    obtain ⟨x_10, ex_10, ej_6⟩ := bindS ej_6
    refine w_go S rfl (op_cap (K := _) S rfl ty25 rfl rfl rfl (RepV.nil : RepV (.sl gt2) w (fun _ => True) _ _) ex_10 ?_)
    clear S; intro a G_9 S
    replace W := W.more
    have O_11 : Ow gt2 37 w w.heap.size (Kx K w.heap.size [.none]) (.slice .none 0 0) ([] : List ((Sl (Int)) × Bool × Bool × Bool × Int)) (some 0) := Ow.nil
    obtain ⟨l_12, el_12, ej_6⟩ := bindS ej_6
    refine w_go S rfl (op_cut_own S (E := 37) rfl ty25 un25 rfl rfl rfl O_11 (.inr ⟨_, _, rfl, rfl⟩) el_12 ?_)
    clear S; intro a v_13 hob_14 O_15 S
    replace W : Wd w w [v_13.ownBlock] := by rw [hob_14]; exact W
    replace O_15 : Ow gt2 37 w w.heap.size (Kx K w.heap.size [v_13.ownBlock]) v_13 l_12 (some 0) := by rw [hob_14]; exact O_15
    refine wl_pureK (l' := [(21, .int .i64 x_5), (20, v_13), (0, .slice .none 0 0)]) S tys tys_ok 1 [21, 20, 0] (by kernel_rfl) ?_
    clear S; intro a S
    obtain ⟨l_16, el_16, ej_6⟩ := bindS ej_6
    refine w_go S rfl (op_append_int (e := gt2) S W (E := 37) (z0 := (⟨[], some 0⟩, false, false, false, 0)) 0 _ rfl ty25 ty3 un25 by25 z37 (fun w K => ⟨[.slice .none 0 0], [.bool false, .bool false, .bool false, .int .i64 0], rfl, ⟨.none, 0, 0, rfl, rfl, Nat.le_refl _, by decide, fun k h => Option.some.inj h, .inl rfl⟩, ⟨[.bool false], [.bool false, .bool false, .int .i64 0], rfl, rfl, ⟨[.bool false], [.bool false, .int .i64 0], rfl, rfl, ⟨[.bool false], [.int .i64 0], rfl, rfl, ⟨rfl, by decide⟩⟩⟩⟩⟩) rfl rfl rfl rfl O_15 rfl el_16 ?_)
    clear S; intro a w_18 v_17 A_19 O_20 S
    replace W : Wd w w_18 [v_17.ownBlock] := W.apd A_19 (i := 0) rfl
    replace O_20 : Ow gt2 37 w_18 w.heap.size (Kx K w.heap.size [v_17.ownBlock]) v_17 l_16 (capA (some 0) l_16.length) := O_20
    refine wl_pure (l' := [(23, .slice .none 0 0), (22, v_17), (21, .int .i64 x_5), (20, v_13), (0, .slice .none 0 0)]) S tys tys_ok 1 (by kernel_rfl) ?_
    clear S; intro a S
    refine w_go S rfl (op_len (K := _) S rfl ty25 rfl rfl rfl (RepV.nil : RepV (.sl gt2) w_18 (fun _ => True) _ _) ?_)
    clear S; intro a G_21 S
    obtain ⟨l_22, el_22, ej_6⟩ := bindS ej_6
    refine w_go S rfl (op_cut_own S (E := 37) rfl ty25 un25 rfl rfl rfl O_20 (.inr ⟨_, _, rfl, rfl⟩) el_22 ?_)
    clear S; intro a v_23 hob_24 O_25 S
    replace W : Wd w w_18 [v_23.ownBlock] := by rw [hob_24]; exact W
    replace O_25 : Ow gt2 37 w_18 w.heap.size (Kx K w.heap.size [v_23.ownBlock]) v_23 l_22 (capA (some 0) l_16.length) := by rw [hob_24]; exact O_25
    refine wl_pureK (l' := [(0, v_23), (0, .slice .none 0 0)]) S tys tys_ok 1 [0] (by kernel_rfl) ?_
    clear S; intro a S
    refine wpList_nil ?_
    refine then_n ?_
    obtain rfl := Option.some.inj ej_6
    exact ⟨v_23, S.sub (by exact ⟨rfl, trivial⟩), W, O_25.forget⟩
   ·intro hc
    rw [if_neg (Bool.eq_false_iff.1 hc)] at ej_6
    refine wp_skip ?_
    refine then_n ?_
    obtain rfl := Option.some.inj ej_6
    replace W := W.more
    have O_26 : Ow gt2 37 w w.heap.size (Kx K w.heap.size [.none]) (.slice .none 0 0) ([] : List ((Sl (Int)) × Bool × Bool × Bool × Int)) (some 0) := Ow.nil
    exact ⟨(.slice .none 0 0), S.sub (by exact ⟨rfl, trivial⟩), W, O_26.forget⟩
  clear S W; rintro a w_27 ⟨v_7, S, W, O_8⟩
  refine then_n ?_
  refine wp_seq ?_
  refine wp_region_lit ?_
  refine wl_pure (l' := [(4, v_7), (26, v_7), (0, v_7)]) S tys tys_ok 2 (by kernel_rfl) ?_
  clear S; intro a S
  refine wpList_nil ?_
  refine then_n ?_
  replace S := S.sub (l' := [(4, v_7)]) (by exact ⟨rfl, trivial⟩)
  refine wp_ret ?_
  obtain rfl := Option.some.inj h
  exact b_ret1 S rfl rfl ⟨_, rfl, (O_8.lessO 0 rfl), W.below⟩
def p33_l1 (n : Nat) (x0 : Sl (Sl ((Sl (Int)) × Bool × Bool × Bool × Int))) : Nat → (Int) → (Int) → Option ((Int))
 | 0, _, _ => .none
 | m + 1, c_2, c_4 => if (decide (c_2 < (lenI x0))) then ((idx x0.xs c_2).bind fun y_15 => (ckI .i64 (c_4 + (lenI y_15))).bind fun x_22 => if (decide (x_22 < 0)) then (.none) else (ckI .i64 (c_2 + 1)).bind fun x_23 => p33_l1 n x0 m x_23 x_22) else some c_4
def p33_l2 (n : Nat) (x0 : Sl (Sl ((Sl (Int)) × Bool × Bool × Bool × Int))) : Nat → (Int) → (List ((Sl (Int)) × Bool × Bool × Bool × Int)) → Option ((List ((Sl (Int)) × Bool × Bool × Bool × Int)))
 | 0, _, _ => .none
 | m + 1, c_31, c_33 => if (decide (c_31 < (lenI x0))) then ((idx x0.xs c_31).bind fun y_47 => (appI c_33 y_47.xs).bind fun l_53 => (ckI .i64 (c_31 + 1)).bind fun x_58 => p33_l2 n x0 m x_58 l_53) else some c_33
def p33 (n : Nat) (x0 : Sl (Sl ((Sl (Int)) × Bool × Bool × Bool × Int))) : Option ((Sl ((Sl (Int)) × Bool × Bool × Bool × Int))) :=
 (p33_l1 n x0 n 0 0).bind fun (y_10 : (Int)) =>
 (p48_nil n y_10).bind fun t_25 =>
 (p33_l2 n x0 n 0 t_25.xs).bind fun (y_41 : (List ((Sl (Int)) × Bool × Bool × Bool × Int))) =>
 some (⟨y_41, .none⟩ : Sl ((Sl (Int)) × Bool × Bool × Bool × Int))
set_option maxHeartbeats 4000000 in
set_option maxRecDepth 100000 in
/-- slices.Concat[plugboard/suspends.List,plugboard/suspends.Node] -/
theorem c33 (K : Nat → Prop) (n : Nat) (w : World) (x0 : Sl (Sl ((Sl (Int)) × Bool × Bool × Bool × Int))) (v0 : Value) (R0 : RepV (.sl (.sl gt2)) w K v0 x0) {r : (Sl ((Sl (Int)) × Bool × Bool × Bool × Int))} (h : p33 n x0 = some r) :
  Calls Try.prog 33 #[v0] w (fun e_ w_ => ∃ v0_ : Value, e_ = .returned v0_ ∧ Ow gt2 37 w_ w.heap.size (Kx K w.heap.size [v0_.ownBlock]) v0_ r.xs r.cap ∧ Below w.heap.size w w_) := by
 refine enter (args := [v0]) Try.func33 rfl 36 rfl rfl fun a S => ?_
 have W := Wd.start w
 replace R0 := R0.arg
 unfold p33 at h
 replace S : St 36 a [(0, v0)] := S
 refine wp_seq ?_
 refine wp_region_lit ?_
 refine wl_pure (l' := [(2, .slice .none 0 0), (0, v0)]) S tys tys_ok 1 (by kernel_rfl) ?_
 clear S; intro a S
 refine wpList_nil ?_
 refine then_n ?_
 replace S := S.sub (l' := [(0, v0)]) (by exact ⟨rfl, trivial⟩)
 refine wp_seq ?_
 refine wp_region_lit ?_
 refine wl_pure (l' := [(3, .int .i64 0), (0, v0)]) S tys tys_ok 1 (by kernel_rfl) ?_
 clear S; intro a S
 refine wpList_nil ?_
 refine then_n ?_
 refine wp_seq ?_
 refine wp_seq ?_
 refine wp_region_lit ?_
 refine wl_pure (l' := [(9, v0), (3, .int .i64 0), (0, v0)]) S tys tys_ok 1 (by kernel_rfl) ?_
 clear S; intro a S
 refine w_go S rfl (op_len (K := _) S rfl ty73 rfl rfl rfl R0 ?_)
 clear S; intro a G_1 S
 refine wl_pure (l' := [(11, .int .i64 0), (10, .int .i64 (lenI x0)), (9, v0), (3, .int .i64 0), (0, v0)]) S tys tys_ok 1 (by kernel_rfl) ?_
 clear S; intro a S
 refine wpList_nil ?_
 refine then_n ?_
 obtain ⟨y_10, ey_10, h⟩ := bindS h
 refine wp_cut_ (fun a_ w_ => St 36 a_ [(0, v0), (3, .int .i64 y_10)] ∧ Wd w w_ [] ∧ InR .i64 y_10 ∧ RepV (.sl (.sl gt2)) w_ (Kx K w.heap.size []) v0 x0) ?_ ?_
 ·refine wp_block ?_
  refine wp_loop_n (fun m_ a_ w_ => ∃ (c_2 : Int) (c_4 : Int) , St 36 a_ [(11, .int .i64 c_2), (10, .int .i64 (lenI x0)), (9, v0), (3, .int .i64 c_4), (0, v0)] ∧ Wd w w_ [] ∧ InR .i64 c_2 ∧ InR .i64 c_4 ∧ RepV (.sl (.sl gt2)) w_ (Kx K w.heap.size []) v0 x0 ∧ p33_l1 n x0 m_ c_2 c_4 = some y_10) n ?_ ?_
  ·skip
   exact ⟨0, 0, ⟨S.sub (by exact ⟨rfl, rfl, rfl, rfl, rfl, trivial⟩), W, (by decide), (by decide), R0, ey_10⟩⟩
  ·clear S W; rintro m_12 a w_14 ⟨c_2, c_4, S, W, G_3, G_5, R0, hl_13⟩
   cases m_12 with
   | zero => exact absurd hl_13 (by simp [p33_l1])
   | succ m_12 =>
    refine ⟨m_12, rfl, ?_⟩
    rw [p33_l1] at hl_13
    refine wp_seq ?_
    refine wp_region_lit ?_
    refine wl_pure (l' := [(12, .bool (decide (c_2 < (lenI x0)))), (11, .int .i64 c_2), (10, .int .i64 (lenI x0)), (9, v0), (3, .int .i64 c_4), (0, v0)]) S tys tys_ok 1 (by kernel_rfl) ?_
    clear S; intro a S
    refine wpList_nil ?_
    refine then_n ?_
    refine wp_seq ?_
    refine wp_cond_split (S.eval (show ev _ _ = some (.bool (decide (c_2 < (lenI x0)))) from rfl)) ?_ ?_
    ·intro hc
     rw [if_pos hc] at hl_13
     refine wp_skip ?_
     refine then_n ?_
     replace S := S.sub (l' := [(11, .int .i64 c_2), (10, .int .i64 (lenI x0)), (9, v0), (3, .int .i64 c_4), (0, v0)]) (by exact ⟨rfl, rfl, rfl, rfl, rfl, trivial⟩)
     refine wp_seq ?_
     refine wp_block ?_
     refine wp_seq ?_
     refine wp_region_lit ?_
     obtain ⟨y_15, ey_15, hl_13⟩ := bindS hl_13
     refine w_go S rfl (op_indexAddr S rfl ty73 rfl rfl rfl R0 rfl ey_15 ?_)
     clear S; intro a p_16 R_17 H_18 S
     refine w_go S rfl (op_load (t := (.sl gt2)) (x := y_15) S rfl ty25 rfl rfl rfl R_17 ?_)
     clear S; intro a v_19 R_20 S
     refine wl_pure (l' := [(5, v_19), (14, v_19), (13, .pointer (some p_16)), (11, .int .i64 c_2), (10, .int .i64 (lenI x0)), (9, v0), (3, .int .i64 c_4), (0, v0)]) S tys tys_ok 1 (by kernel_rfl) ?_
     clear S; intro a S
     refine wpList_nil ?_
     refine then_n ?_
     replace S := S.sub (l' := [(5, v_19), (11, .int .i64 c_2), (10, .int .i64 (lenI x0)), (9, v0), (3, .int .i64 c_4), (0, v0)]) (by exact ⟨rfl, rfl, rfl, rfl, rfl, rfl, trivial⟩)
     refine wp_seq ?_
     refine wp_region_lit ?_
     refine wl_pure (l' := [(16, v_19), (15, .int .i64 c_4), (5, v_19), (11, .int .i64 c_2), (10, .int .i64 (lenI x0)), (9, v0), (3, .int .i64 c_4), (0, v0)]) S tys tys_ok 2 (by kernel_rfl) ?_
     clear S; intro a S
     refine w_go S rfl (op_len (K := _) S rfl ty25 rfl rfl rfl R_20 ?_)
     clear S; intro a G_21 S
     obtain ⟨x_22, ex_22, hl_13⟩ := bindS hl_13
     refine w_go S rfl (op_arith S .i64 (c_4 + (lenI y_15)) rfl (.inl rfl) rfl rfl rfl rfl ex_22 ?_)
     clear S; intro a S
     refine wl_pureK (l' := [(3, .int .i64 x_22), (11, .int .i64 c_2), (10, .int .i64 (lenI x0)), (9, v0), (3, .int .i64 c_4), (0, v0)]) S tys tys_ok 1 [3, 11, 10, 9, 0] (by kernel_rfl) ?_
     clear S; intro a S
     refine wpList_nil ?_
     refine then_n ?_
     refine wp_seq ?_
     refine wp_region_lit ?_
     refine wl_pure (l' := [(20, .bool (decide (x_22 < 0))), (19, .int .i64 x_22), (3, .int .i64 x_22), (11, .int .i64 c_2), (10, .int .i64 (lenI x0)), (9, v0), (3, .int .i64 c_4), (0, v0)]) S tys tys_ok 2 (by kernel_rfl) ?_
     clear S; intro a S
     refine wpList_nil ?_
     refine then_n ?_
     replace S := S.sub (l' := [(20, .bool (decide (x_22 < 0))), (3, .int .i64 x_22), (11, .int .i64 c_2), (10, .int .i64 (lenI x0)), (9, v0), (0, v0)]) (by exact ⟨rfl, rfl, rfl, rfl, rfl, rfl, trivial⟩)
     refine wp_cond_split (S.eval (show ev _ _ = some (.bool (decide (x_22 < 0))) from rfl)) ?_ ?_
     ·intro hc
      rw [if_pos hc] at hl_13
      cases hl_13
     ·intro hc
      rw [if_neg (Bool.eq_false_iff.1 hc)] at hl_13
      refine wp_skip ?_
      refine blk_n ?_
      refine then_n ?_
      replace S := S.sub (l' := [(3, .int .i64 x_22), (11, .int .i64 c_2), (10, .int .i64 (lenI x0)), (9, v0), (0, v0)]) (by exact ⟨rfl, rfl, rfl, rfl, rfl, trivial⟩)
      refine wp_region_lit ?_
      obtain ⟨x_23, ex_23, hl_13⟩ := bindS hl_13
      refine w_go S rfl (op_arith S .i64 (c_2 + 1) rfl (.inl rfl) rfl rfl rfl rfl ex_23 ?_)
      clear S; intro a S
      refine wl_pure (l' := [(11, .int .i64 x_23), (22, .int .i64 x_23), (3, .int .i64 x_22), (11, .int .i64 c_2), (10, .int .i64 (lenI x0)), (9, v0), (0, v0)]) S tys tys_ok 1 (by kernel_rfl) ?_
      clear S; intro a S
      refine wpList_nil ?_
      refine then_n ?_
      exact ⟨x_23, x_22, ⟨S.sub (by exact ⟨rfl, rfl, rfl, rfl, rfl, trivial⟩), W, (ckI_some ex_23).2.1, (ckI_some ex_22).2.1, R0, hl_13⟩⟩
    ·intro hc
     rw [if_neg (Bool.eq_false_iff.1 hc)] at hl_13
     refine wp_exit ?_
     refine then_x ?_
     refine then_x ?_
     refine blk_hit ?_
     refine then_n ?_
     obtain rfl := Option.some.inj hl_13
     exact ⟨S.sub (by exact ⟨rfl, rfl, trivial⟩), W, G_5, R0⟩
 clear S W; rintro a w_24 ⟨S, W, G_11, R0⟩
 refine then_n ?_
 refine wp_seq ?_
 refine wp_region_lit ?_
 refine wl_pure (l' := [(23, .int .i64 y_10), (0, v0), (3, .int .i64 y_10)]) S tys tys_ok 1 (by kernel_rfl) ?_
 clear S; intro a S
 obtain ⟨t_25, et_25, h⟩ := bindS h
 refine w_go S rfl (op_call (vs := [.slice .none 0 0, .int .i64 y_10]) S rfl cb48 rfl rfl rfl (c48_nil (Kx K w.heap.size []) n w_24 y_10 G_11 et_25) ?_)
 rintro _ w_29 ⟨v_26, rfl, R_27, hb_28⟩; refine ⟨_, rfl, ?_⟩
 have NO_ := newO_of R_27 (Nat.le_refl _) hb_28
 replace R_27 := Ow.backO R_27 W
 clear S; intro a S
 replace R0 := R0.newO NO_
 replace W := W.newO NO_
 clear NO_
 refine wl_pureK (l' := [(6, v_26), (0, v0)]) S tys tys_ok 1 [6, 0] (by kernel_rfl) ?_
 clear S; intro a S
 refine wpList_nil ?_
 refine then_n ?_
 refine wp_seq ?_
 refine wp_seq ?_
 refine wp_region_lit ?_
 refine wl_pure (l' := [(25, v0), (6, v_26), (0, v0)]) S tys tys_ok 1 (by kernel_rfl) ?_
 clear S; intro a S
 refine w_go S rfl (op_len (K := _) S rfl ty73 rfl rfl rfl R0 ?_)
 clear S; intro a G_30 S
 refine wl_pure (l' := [(27, .int .i64 0), (26, .int .i64 (lenI x0)), (25, v0), (6, v_26), (0, v0)]) S tys tys_ok 1 (by kernel_rfl) ?_
 clear S; intro a S
 refine wpList_nil ?_
 refine then_n ?_
 replace S := S.sub (l' := [(27, .int .i64 0), (26, .int .i64 (lenI x0)), (25, v0), (6, v_26)]) (by exact ⟨rfl, rfl, rfl, rfl, trivial⟩)
 obtain ⟨y_41, ey_41, h⟩ := bindS h
 refine wp_cut_ (fun a_ w_ => ∃ (v_42 : Value), St 36 a_ [(6, v_42)] ∧ Wd w w_ [v_42.ownBlock] ∧ Ow gt2 37 w_ w.heap.size (Kx K w.heap.size [v_42.ownBlock]) v_42 y_41 .none) ?_ ?_
 ·refine wp_block ?_
  refine wp_loop_n (fun m_ a_ w_ => ∃ (c_31 : Int) (c_33 : List ((Sl (Int)) × Bool × Bool × Bool × Int)) , ∃ (v_34 : Value), St 36 a_ [(27, .int .i64 c_31), (26, .int .i64 (lenI x0)), (25, v0), (6, v_34)] ∧ Wd w w_ [v_34.ownBlock] ∧ InR .i64 c_31 ∧ RepV (.sl (.sl gt2)) w_ (Kx K w.heap.size [v_34.ownBlock]) v0 x0 ∧ Ow gt2 37 w_ w.heap.size (Kx K w.heap.size [v_34.ownBlock]) v_34 c_33 .none ∧ p33_l2 n x0 m_ c_31 c_33 = some y_41) n ?_ ?_
  ·skip
   exact ⟨0, t_25.xs, ⟨v_26, S.sub (by exact ⟨rfl, rfl, rfl, rfl, trivial⟩), W, (by decide), R0, R_27.forget, ey_41⟩⟩
  ·clear S W; rintro m_44 a w_46 ⟨c_31, c_33, v_34, S, W, G_32, R0, O_35, hl_45⟩
   cases m_44 with
   | zero => exact absurd hl_45 (by simp [p33_l2])
   | succ m_44 =>
    refine ⟨m_44, rfl, ?_⟩
    rw [p33_l2] at hl_45
    refine wp_seq ?_
    refine wp_region_lit ?_
    refine wl_pure (l' := [(28, .bool (decide (c_31 < (lenI x0)))), (27, .int .i64 c_31), (26, .int .i64 (lenI x0)), (25, v0), (6, v_34)]) S tys tys_ok 1 (by kernel_rfl) ?_
    clear S; intro a S
    refine wpList_nil ?_
    refine then_n ?_
    refine wp_seq ?_
    refine wp_cond_split (S.eval (show ev _ _ = some (.bool (decide (c_31 < (lenI x0)))) from rfl)) ?_ ?_
    ·intro hc
     rw [if_pos hc] at hl_45
     refine wp_skip ?_
     refine then_n ?_
     replace S := S.sub (l' := [(27, .int .i64 c_31), (26, .int .i64 (lenI x0)), (25, v0), (6, v_34)]) (by exact ⟨rfl, rfl, rfl, rfl, trivial⟩)
     refine wp_seq ?_
     refine wp_block ?_
     refine wp_seq ?_
     refine wp_region_lit ?_
     obtain ⟨y_47, ey_47, hl_45⟩ := bindS hl_45
     refine w_go S rfl (op_indexAddr S rfl ty73 rfl rfl rfl R0 rfl ey_47 ?_)
     clear S; intro a p_48 R_49 H_50 S
     refine w_go S rfl (op_load (t := (.sl gt2)) (x := y_47) S rfl ty25 rfl rfl rfl R_49 ?_)
     clear S; intro a v_51 R_52 S
     refine wl_pure (l' := [(8, v_51), (30, v_51), (29, .pointer (some p_48)), (27, .int .i64 c_31), (26, .int .i64 (lenI x0)), (25, v0), (6, v_34)]) S tys tys_ok 1 (by kernel_rfl) ?_
     clear S; intro a S
     refine wpList_nil ?_
     refine then_n ?_
     replace S := S.sub (l' := [(8, v_51), (27, .int .i64 c_31), (26, .int .i64 (lenI x0)), (25, v0), (6, v_34)]) (by exact ⟨rfl, rfl, rfl, rfl, rfl, trivial⟩)
     refine wp_region_lit ?_
     refine wl_pure (l' := [(32, v_51), (31, v_34), (8, v_51), (27, .int .i64 c_31), (26, .int .i64 (lenI x0)), (25, v0), (6, v_34)]) S tys tys_ok 2 (by kernel_rfl) ?_
     clear S; intro a S
     obtain ⟨l_53, el_53, hl_45⟩ := bindS hl_45
     refine w_go S rfl (op_append S W (E := 37) 0 rfl ty25 un25 by25 rfl rfl rfl rfl O_35 rfl R_52 el_53 ?_)
     clear S; intro a w_55 v_54 A_56 O_57 S
     replace R_52 : RepV (.sl gt2) w_55 (Kx K w.heap.size [v_54.ownBlock]) v_51 y_47 := R_52.apd A_56 (i := 0) rfl
     replace R0 : RepV (.sl (.sl gt2)) w_55 (Kx K w.heap.size [v_54.ownBlock]) v0 x0 := R0.apd A_56 (i := 0) rfl
     replace W : Wd w w_55 [v_54.ownBlock] := W.apd A_56 (i := 0) rfl
     replace O_57 : Ow gt2 37 w_55 w.heap.size (Kx K w.heap.size [v_54.ownBlock]) v_54 l_53 (capA .none l_53.length) := O_57
     refine wl_pureK (l' := [(6, v_54), (27, .int .i64 c_31), (26, .int .i64 (lenI x0)), (25, v0), (6, v_34)]) S tys tys_ok 1 [6, 27, 26, 25] (by kernel_rfl) ?_
     clear S; intro a S
     refine wpList_nil ?_
     refine blk_n ?_
     refine then_n ?_
     refine wp_region_lit ?_
     obtain ⟨x_58, ex_58, hl_45⟩ := bindS hl_45
     refine w_go S rfl (op_arith S .i64 (c_31 + 1) rfl (.inl rfl) rfl rfl rfl rfl ex_58 ?_)
     clear S; intro a S
     refine wl_pure (l' := [(27, .int .i64 x_58), (34, .int .i64 x_58), (6, v_54), (27, .int .i64 c_31), (26, .int .i64 (lenI x0)), (25, v0), (6, v_34)]) S tys tys_ok 1 (by kernel_rfl) ?_
     clear S; intro a S
     refine wpList_nil ?_
     refine then_n ?_
     exact ⟨x_58, l_53, ⟨v_54, S.sub (by exact ⟨rfl, rfl, rfl, rfl, trivial⟩), W, (ckI_some ex_58).2.1, R0, O_57.forget, hl_45⟩⟩
    ·intro hc
     rw [if_neg (Bool.eq_false_iff.1 hc)] at hl_45
     refine wp_exit ?_
     refine then_x ?_
     refine then_x ?_
     refine blk_hit ?_
     refine then_n ?_
     obtain rfl := Option.some.inj hl_45
     exact ⟨v_34, S.sub (by exact ⟨rfl, trivial⟩), W, O_35⟩
 clear S W; rintro a w_59 ⟨v_42, S, W, O_43⟩
 refine then_n ?_
 refine wp_seq ?_
 refine wp_region_lit ?_
 refine wl_pure (l' := [(2, v_42), (35, v_42), (6, v_42)]) S tys tys_ok 2 (by kernel_rfl) ?_
 clear S; intro a S
 refine wpList_nil ?_
 refine then_n ?_
 replace S := S.sub (l' := [(2, v_42)]) (by exact ⟨rfl, trivial⟩)
 refine wp_ret ?_
 obtain rfl := Option.some.inj h
 exact b_ret1 S rfl rfl ⟨_, rfl, (O_43.lessO 0 rfl), W.below⟩
theorem cb33 : callB Try.prog 33 = true := by kernel_rfl
def p15_l1 (n : Nat) (x1 : Sl (Int)) (t_35 : (Sl ((Sl (Int)) × Bool × Bool × Bool × Int))) (t_40 : (Sl ((Sl (Int)) × Bool)) × (List ((Sl (Int)) × Bool × Bool × Bool × Int))) : Nat → (Int) → Option ((Int))
 | 0, _ => .none
 | m + 1, c_46 => (if (decide (c_46 < (lenI (⟨t_40.2, t_35.cap⟩ : Sl ((Sl (Int)) × Bool × Bool × Bool × Int))))) = true then (idx t_40.2 c_46).bind fun y_57 => (p32 n y_57.1 x1).bind fun t_63 => some (decide (t_63 < 0)) else some false).bind fun q_56 => if q_56 then ((ckI .i64 (c_46 + 1)).bind fun x_69 => p15_l1 n x1 t_35 t_40 m x_69) else some c_46
def p15 (n : Nat) (x0 : Sl ((Sl (Int)) × Bool × Bool × Bool × Int)) (x1 : Sl (Int)) (x2 : Bool) : Option ((Sl ((Sl (Int)) × Bool × Bool × Bool × Int)) × (Sl ((Sl (Int)) × Bool)) × (Int)) :=
 (p19 n x0).bind fun t_1 =>
 if (t_1 != 0) then (some ((⟨[], some 0⟩ : Sl ((Sl (Int)) × Bool × Bool × Bool × Int)), (⟨[], some 0⟩ : Sl ((Sl (Int)) × Bool)), t_1)) else (if ((lenI x1) == 0) = false then (p13 n x1).bind fun t_8 => some (t_8 != 0) else some true).bind fun q_7 => if q_7 then (some ((⟨[], some 0⟩ : Sl ((Sl (Int)) × Bool × Bool × Bool × Int)), (⟨[], some 0⟩ : Sl ((Sl (Int)) × Bool)), 1)) else (p29 n x1).bind fun t_14 => (p30 n x0 x1).bind fun t_21 => if (decide (t_21 ≥ 0)) then (some ((⟨[], some 0⟩ : Sl ((Sl (Int)) × Bool × Bool × Bool × Int)), (⟨[], some 0⟩ : Sl ((Sl (Int)) × Bool)), 8)) else (if (decide ((lenI x1) > 1)) = true then (p30 n x0 t_14.1).bind fun t_28 => some (decide (t_28 < 0)) else some false).bind fun q_27 => if q_27 then (some ((⟨[], some 0⟩ : Sl ((Sl (Int)) × Bool × Bool × Bool × Int)), (⟨[], some 0⟩ : Sl ((Sl (Int)) × Bool)), 7)) else if ((lenI x0) == 127) then (some ((⟨[], some 0⟩ : Sl ((Sl (Int)) × Bool × Bool × Bool × Int)), (⟨[], some 0⟩ : Sl ((Sl (Int)) × Bool)), 9)) else (p23 n x0).bind fun t_35 => (p31 n (⟨t_35.xs, t_35.cap⟩ : Sl ((Sl (Int)) × Bool × Bool × Bool × Int)) x1).bind fun t_40 => (p15_l1 n x1 t_35 t_40 n 0).bind fun (y_50 : (Int)) => (slI (⟨t_40.2, t_35.cap⟩ : Sl ((Sl (Int)) × Bool × Bool × Bool × Int)) 0 y_50).bind fun s_74 => (p26 n x1).bind fun t_75 => (slI (⟨t_40.2, t_35.cap⟩ : Sl ((Sl (Int)) × Bool × Bool × Bool × Int)) y_50 (lenI (⟨t_40.2, t_35.cap⟩ : Sl ((Sl (Int)) × Bool × Bool × Bool × Int)))).bind fun s_88 => (p33 n (⟨[s_74, (⟨[(t_75, false, x2, false, 0)], some 1⟩ : Sl ((Sl (Int)) × Bool × Bool × Bool × Int)), s_88], some 3⟩ : Sl (Sl ((Sl (Int)) × Bool × Bool × Bool × Int)))).bind fun t_93 => (p23 n t_93).bind fun t_98 => some (t_98, t_40.1, 0)
set_option maxHeartbeats 4000000 in
set_option maxRecDepth 100000 in
/-- plugboard/suspends.Put -/
theorem c15 (K : Nat → Prop) (n : Nat) (w : World) (x0 : Sl ((Sl (Int)) × Bool × Bool × Bool × Int)) (v0 : Value) (R0 : RepV (.sl gt2) w K v0 x0) (x1 : Sl (Int)) (v1 : Value) (R1 : RepV (.sl (.int .u8)) w K v1 x1) (x2 : Bool) {r : (Sl ((Sl (Int)) × Bool × Bool × Bool × Int)) × (Sl ((Sl (Int)) × Bool)) × (Int)} (h : p15 n x0 x1 x2 = some r) :
  Calls Try.prog 15 #[v0, v1, .bool x2] w (Ret3 (.sl gt2) (.sl gt0) (.int .i64) w (Kx K w.heap.size []) r) := by
 refine enter (args := [v0, v1, .bool x2]) Try.func15 rfl 88 rfl rfl fun a S => ?_
 have W := Wd.start w
 replace R0 := R0.arg
 replace R1 := R1.arg
 unfold p15 at h
 replace S : St 88 a [(0, v0), (1, v1), (2, .bool x2)] := S
 refine wp_seq ?_
 refine wp_region_lit ?_
 refine wl_pureK (l' := [(0, v0), (1, v1), (2, .bool x2)]) S tys tys_ok 3 [0, 1, 2] (by kernel_rfl) ?_
 clear S; intro a S
 refine wpList_nil ?_
 refine then_n ?_
 refine wp_seq ?_
 refine wp_seq ?_
 refine wp_region_lit ?_
 refine wl_pure (l' := [(15, v0), (0, v0), (1, v1), (2, .bool x2)]) S tys tys_ok 1 (by kernel_rfl) ?_
 clear S; intro a S
 obtain ⟨t_1, et_1, h⟩ := bindS h
 refine w_go S rfl (op_call (vs := [v0]) S rfl cb19 rfl rfl rfl (c19 (Kx K w.heap.size []) n w x0 _ R0 et_1) ?_)
 rintro _ w_5 ⟨v_2, rfl, R_3, hb_4⟩; refine ⟨_, rfl, ?_⟩
 replace R_3 := RepV.back R_3 W
 clear S; intro a S
 replace R0 := R0.step hb_4
 replace R1 := R1.step hb_4
 replace W := W.step hb_4
 obtain ⟨rfl, GR_3⟩ := RepV.int R_3
 refine wl_pure (l' := [(9, .int .i64 t_1), (16, .int .i64 t_1), (15, v0), (0, v0), (1, v1), (2, .bool x2)]) S tys tys_ok 1 (by kernel_rfl) ?_
 clear S; intro a S
 refine wpList_nil ?_
 refine then_n ?_
 replace S := S.sub (l' := [(9, .int .i64 t_1), (0, v0), (1, v1), (2, .bool x2)]) (by exact ⟨rfl, rfl, rfl, rfl, trivial⟩)
 refine wp_seq ?_
 refine wp_region_lit ?_
 refine wl_pure (l' := [(18, .bool (t_1 != 0)), (17, .int .i64 t_1), (9, .int .i64 t_1), (0, v0), (1, v1), (2, .bool x2)]) S tys tys_ok 2 (by kernel_rfl) ?_
 clear S; intro a S
 refine wpList_nil ?_
 refine then_n ?_
 replace S := S.sub (l' := [(18, .bool (t_1 != 0)), (9, .int .i64 t_1), (0, v0), (1, v1), (2, .bool x2)]) (by exact ⟨rfl, rfl, rfl, rfl, rfl, trivial⟩)
 refine wp_cond_split (S.eval (show ev _ _ = some (.bool (t_1 != 0)) from rfl)) ?_ ?_
 ·intro hc
  rw [if_pos hc] at h
  refine wp_seq ?_
  refine wp_region_lit ?_
  refine wl_pureK (l' := [(8, .int .i64 t_1), (7, .slice .none 0 0), (6, .slice .none 0 0)]) S tys tys_ok 4 [8, 7, 6] (by kernel_rfl) ?_
  clear S; intro a S
  refine wpList_nil ?_
  refine then_n ?_
  refine wp_ret ?_
  refine then_r ?_
  obtain rfl := Option.some.inj h
  exact b_ret3 S rfl rfl rfl rfl ⟨_, _, _, rfl, RepV.nil, RepV.nil, (RepV.mkInt GR_3), W.below⟩
 ·intro hc
  rw [if_neg (Bool.eq_false_iff.1 hc)] at h
  refine wp_skip ?_
  refine then_n ?_
  replace S := S.sub (l' := [(0, v0), (1, v1), (2, .bool x2)]) (by exact ⟨rfl, rfl, rfl, trivial⟩)
  refine wp_seq ?_
  refine wp_seq ?_
  refine wp_region_lit ?_
  refine wl_pure (l' := [(20, v1), (0, v0), (1, v1), (2, .bool x2)]) S tys tys_ok 1 (by kernel_rfl) ?_
  clear S; intro a S
  refine w_go S rfl (op_len (K := _) S rfl ty35 rfl rfl rfl R1 ?_)
  clear S; intro a G_6 S
  refine wl_pureK (l' := [(23, .bool ((lenI x1) == 0)), (0, v0), (1, v1), (2, .bool x2)]) S tys tys_ok 2 [23, 0, 1, 2] (by kernel_rfl) ?_
  clear S; intro a S
  obtain ⟨q_7, eq_7, h⟩ := bindS h
  refine seg 4 (fun a_ w_ => St 88 a_ [(27, .bool q_7), (0, v0), (1, v1), (2, .bool x2)] ∧ Wd w w_ [] ∧ RepV (.sl gt2) w_ (Kx K w.heap.size []) v0 x0 ∧ RepV (.sl (.int .u8)) w_ (Kx K w.heap.size []) v1 x1) ?_ ?_
  ·by_cases hc : ((lenI x1) == 0) = false
   ·rw [if_pos hc] at eq_7; rw [hc] at S
    refine wl_pure (l' := [(24, v1), (23, .bool false), (0, v0), (1, v1), (2, .bool x2)]) S tys tys_ok 1 (by kernel_rfl) ?_
    clear S; intro a S
    obtain ⟨t_8, et_8, eq_7⟩ := bindS eq_7
    refine w_go S rfl (op_call (vs := [v1]) S rfl cb13 rfl rfl rfl (c13 (Kx K w.heap.size []) n w_5 x1 _ R1 et_8) ?_)
    rintro _ w_12 ⟨v_9, rfl, R_10, hb_11⟩; refine ⟨_, rfl, ?_⟩
    replace R_10 := RepV.back R_10 W
    clear S; intro a S
    replace R0 := R0.step hb_11
    replace R1 := R1.step hb_11
    replace W := W.step hb_11
    obtain ⟨rfl, GR_10⟩ := RepV.int R_10
    refine wl_pureK (l' := [(27, .bool (t_8 != 0)), (0, v0), (1, v1), (2, .bool x2)]) S tys tys_ok 2 [27, 0, 1, 2] (by kernel_rfl) ?_
    clear S; intro a S
    obtain rfl := Option.some.inj eq_7
    exact ⟨S.sub (by exact ⟨rfl, rfl, rfl, rfl, trivial⟩), W, R0, R1⟩
   ·rw [if_neg hc] at eq_7; rw [show ((lenI x1) == 0) = true from (by simpa using hc)] at S
    refine wl_pureK (l' := [(27, .bool true), (0, v0), (1, v1), (2, .bool x2)]) S tys tys_ok 4 [27, 0, 1, 2] (by kernel_rfl) ?_
    clear S; intro a S
    obtain rfl := Option.some.inj eq_7
    exact ⟨S.sub (by exact ⟨rfl, rfl, rfl, rfl, trivial⟩), W, R0, R1⟩
  clear S W eq_7; rintro a w_13 ⟨S, W, R0, R1⟩
  refine wpList_nil ?_
  refine then_n ?_
  refine wp_cond_split (S.eval (show ev _ _ = some (.bool q_7) from rfl)) ?_ ?_
  ·intro hc
   rw [if_pos hc] at h
   refine wp_seq ?_
   refine wp_region_lit ?_
   refine wl_pureK (l' := [(8, .int .i64 1), (7, .slice .none 0 0), (6, .slice .none 0 0)]) S tys tys_ok 3 [8, 7, 6] (by kernel_rfl) ?_
   clear S; intro a S
   refine wpList_nil ?_
   refine then_n ?_
   refine wp_ret ?_
   refine then_r ?_
   obtain rfl := Option.some.inj h
   exact b_ret3 S rfl rfl rfl rfl ⟨_, _, _, rfl, RepV.nil, RepV.nil, (RepV.mkInt (by decide)), W.below⟩
  ·intro hc
   rw [if_neg (Bool.eq_false_iff.1 hc)] at h
   refine wp_skip ?_
   refine then_n ?_
   replace S := S.sub (l' := [(0, v0), (1, v1), (2, .bool x2)]) (by exact ⟨rfl, rfl, rfl, trivial⟩)
   refine wp_seq ?_
   refine wp_region_lit ?_
   refine wl_pure (l' := [(29, v1), (0, v0), (1, v1), (2, .bool x2)]) S tys tys_ok 1 (by kernel_rfl) ?_
   clear S; intro a S
   obtain ⟨t_14, et_14, h⟩ := bindS h
   refine w_go S rfl (op_call (vs := [v1]) S rfl cb29 rfl rfl rfl (c29 (Kx K w.heap.size []) n w_13 x1 _ R1 et_14) ?_)
   rintro _ w_20 ⟨v_15, v_16, rfl, R_17, R_18, hb_19⟩; refine ⟨_, rfl, ?_⟩
   replace R_17 := RepV.back R_17 W
   replace R_18 := RepV.back R_18 W
   clear S; intro a S
   replace R0 := R0.step hb_19
   replace R1 := R1.step hb_19
   replace W := W.step hb_19
   obtain ⟨rfl, GR_18⟩ := RepV.int R_18
   refine wl_pureK (l' := [(10, v_15), (0, v0), (1, v1), (2, .bool x2)]) S tys tys_ok 5 [10, 0, 1, 2] (by kernel_rfl) ?_
   clear S; intro a S
   refine wpList_nil ?_
   refine then_n ?_
   refine wp_seq ?_
   refine wp_block ?_
   refine wp_seq ?_
   refine wp_region_lit ?_
   refine wl_pure (l' := [(35, v1), (34, v0), (10, v_15), (0, v0), (1, v1), (2, .bool x2)]) S tys tys_ok 2 (by kernel_rfl) ?_
   clear S; intro a S
   obtain ⟨t_21, et_21, h⟩ := bindS h
   refine w_go S rfl (op_call (vs := [v0, v1]) S rfl cb30 rfl rfl rfl (c30 (Kx K w.heap.size []) n w_20 x0 _ R0 x1 _ R1 et_21) ?_)
   rintro _ w_25 ⟨v_22, rfl, R_23, hb_24⟩; refine ⟨_, rfl, ?_⟩
   replace R_23 := RepV.back R_23 W
   clear S; intro a S
   replace R0 := R0.step hb_24
   replace R1 := R1.step hb_24
   replace R_17 := R_17.step hb_24
   replace W := W.step hb_24
   obtain ⟨rfl, GR_23⟩ := RepV.int R_23
   refine wl_pureK (l' := [(33, .bool (decide (t_21 ≥ 0))), (10, v_15), (0, v0), (1, v1), (2, .bool x2)]) S tys tys_ok 2 [33, 10, 0, 1, 2] (by kernel_rfl) ?_
   clear S; intro a S
   refine wpList_nil ?_
   refine then_n ?_
   refine wp_cond_split (S.eval (show ev _ _ = some (.bool (decide (t_21 ≥ 0))) from rfl)) ?_ ?_
   ·intro hc
    rw [if_pos hc] at h
    refine wp_seq ?_
    refine wp_region_lit ?_
    refine wl_pureK (l' := [(8, .int .i64 8), (7, .slice .none 0 0), (6, .slice .none 0 0)]) S tys tys_ok 3 [8, 7, 6] (by kernel_rfl) ?_
    clear S; intro a S
    refine wpList_nil ?_
    refine then_n ?_
    refine wp_ret ?_
    refine blk_r ?_
    refine then_r ?_
    obtain rfl := Option.some.inj h
    exact b_ret3 S rfl rfl rfl rfl ⟨_, _, _, rfl, RepV.nil, RepV.nil, (RepV.mkInt (by decide)), W.below⟩
   ·intro hc
    rw [if_neg (Bool.eq_false_iff.1 hc)] at h
    refine wp_seq ?_
    refine wp_region_lit ?_
    refine wl_pure (l' := [(39, v1), (33, .bool (decide (t_21 ≥ 0))), (10, v_15), (0, v0), (1, v1), (2, .bool x2)]) S tys tys_ok 1 (by kernel_rfl) ?_
    clear S; intro a S
    refine w_go S rfl (op_len (K := _) S rfl ty35 rfl rfl rfl R1 ?_)
    clear S; intro a G_26 S
    refine wl_pureK (l' := [(42, .bool (decide ((lenI x1) > 1))), (10, v_15), (0, v0), (1, v1), (2, .bool x2)]) S tys tys_ok 2 [42, 10, 0, 1, 2] (by kernel_rfl) ?_
    clear S; intro a S
    obtain ⟨q_27, eq_27, h⟩ := bindS h
    refine seg 5 (fun a_ w_ => St 88 a_ [(47, .bool q_27), (0, v0), (1, v1), (2, .bool x2)] ∧ Wd w w_ [] ∧ RepV (.sl gt2) w_ (Kx K w.heap.size []) v0 x0 ∧ RepV (.sl (.int .u8)) w_ (Kx K w.heap.size []) v1 x1) ?_ ?_
    ·by_cases hc : (decide ((lenI x1) > 1)) = true
     ·rw [if_pos hc] at eq_27; rw [hc] at S
      refine wl_pure (l' := [(44, v_15), (43, v0), (42, .bool true), (10, v_15), (0, v0), (1, v1), (2, .bool x2)]) S tys tys_ok 2 (by kernel_rfl) ?_
      clear S; intro a S
      obtain ⟨t_28, et_28, eq_27⟩ := bindS eq_27
      refine w_go S rfl (op_call (vs := [v0, v_15]) S rfl cb30 rfl rfl rfl (c30 (Kx K w.heap.size []) n w_25 x0 _ R0 t_14.1 _ R_17 et_28) ?_)
      rintro _ w_32 ⟨v_29, rfl, R_30, hb_31⟩; refine ⟨_, rfl, ?_⟩
      replace R_30 := RepV.back R_30 W
      clear S; intro a S
      replace R0 := R0.step hb_31
      replace R1 := R1.step hb_31
      replace R_17 := R_17.step hb_31
      replace W := W.step hb_31
      obtain ⟨rfl, GR_30⟩ := RepV.int R_30
      refine wl_pureK (l' := [(47, .bool (decide (t_28 < 0))), (0, v0), (1, v1), (2, .bool x2)]) S tys tys_ok 2 [47, 0, 1, 2] (by kernel_rfl) ?_
      clear S; intro a S
      obtain rfl := Option.some.inj eq_27
      exact ⟨S.sub (by exact ⟨rfl, rfl, rfl, rfl, trivial⟩), W, R0, R1⟩
     ·rw [if_neg hc] at eq_27; rw [show (decide ((lenI x1) > 1)) = false from Bool.eq_false_iff.2 hc] at S
      refine wl_pureK (l' := [(47, .bool false), (0, v0), (1, v1), (2, .bool x2)]) S tys tys_ok 5 [47, 0, 1, 2] (by kernel_rfl) ?_
      clear S; intro a S
      obtain rfl := Option.some.inj eq_27
      exact ⟨S.sub (by exact ⟨rfl, rfl, rfl, rfl, trivial⟩), W, R0, R1⟩
    clear S W eq_27; rintro a w_33 ⟨S, W, R0, R1⟩
    refine wl_pure (l' := [(38, .bool q_27), (47, .bool q_27), (0, v0), (1, v1), (2, .bool x2)]) S tys tys_ok 1 (by kernel_rfl) ?_
    clear S; intro a S
    refine wpList_nil ?_
    refine then_n ?_
    replace S := S.sub (l' := [(38, .bool q_27), (0, v0), (1, v1), (2, .bool x2)]) (by exact ⟨rfl, rfl, rfl, rfl, trivial⟩)
    refine wp_cond_split (S.eval (show ev _ _ = some (.bool q_27) from rfl)) ?_ ?_
    ·intro hc
     rw [if_pos hc] at h
     refine wp_seq ?_
     refine wp_region_lit ?_
     refine wl_pureK (l' := [(8, .int .i64 7), (7, .slice .none 0 0), (6, .slice .none 0 0)]) S tys tys_ok 3 [8, 7, 6] (by kernel_rfl) ?_
     clear S; intro a S
     refine wpList_nil ?_
     refine then_n ?_
     refine wp_ret ?_
     refine blk_r ?_
     refine then_r ?_
     obtain rfl := Option.some.inj h
     exact b_ret3 S rfl rfl rfl rfl ⟨_, _, _, rfl, RepV.nil, RepV.nil, (RepV.mkInt (by decide)), W.below⟩
    ·intro hc
     rw [if_neg (Bool.eq_false_iff.1 hc)] at h
     refine wp_seq ?_
     refine wp_region_lit ?_
     refine wl_pure (l' := [(49, v0), (38, .bool q_27), (0, v0), (1, v1), (2, .bool x2)]) S tys tys_ok 1 (by kernel_rfl) ?_
     clear S; intro a S
     refine w_go S rfl (op_len (K := _) S rfl ty25 rfl rfl rfl R0 ?_)
     clear S; intro a G_34 S
     refine wl_pureK (l' := [(48, .bool ((lenI x0) == 127)), (0, v0), (1, v1), (2, .bool x2)]) S tys tys_ok 2 [48, 0, 1, 2] (by kernel_rfl) ?_
     clear S; intro a S
     refine wpList_nil ?_
     refine then_n ?_
     refine wp_cond_split (S.eval (show ev _ _ = some (.bool ((lenI x0) == 127)) from rfl)) ?_ ?_
     ·intro hc
      rw [if_pos hc] at h
      refine wp_seq ?_
      refine wp_region_lit ?_
      refine wl_pureK (l' := [(8, .int .i64 9), (7, .slice .none 0 0), (6, .slice .none 0 0)]) S tys tys_ok 3 [8, 7, 6] (by kernel_rfl) ?_
      clear S; intro a S
      refine wpList_nil ?_
      refine then_n ?_
      refine wp_ret ?_
      refine blk_r ?_
      refine then_r ?_
      obtain rfl := Option.some.inj h
      exact b_ret3 S rfl rfl rfl rfl ⟨_, _, _, rfl, RepV.nil, RepV.nil, (RepV.mkInt (by decide)), W.below⟩
     ·intro hc
      rw [if_neg (Bool.eq_false_iff.1 hc)] at h
      refine wp_skip ?_
      refine blk_n ?_
      refine then_n ?_
      replace S := S.sub (l' := [(0, v0), (1, v1), (2, .bool x2)]) (by exact ⟨rfl, rfl, rfl, trivial⟩)
      refine wp_seq ?_
      refine wp_region_lit ?_
      refine wl_pure (l' := [(52, v0), (0, v0), (1, v1), (2, .bool x2)]) S tys tys_ok 1 (by kernel_rfl) ?_
      clear S; intro a S
      obtain ⟨t_35, et_35, h⟩ := bindS h
      refine w_go S rfl (op_call (vs := [v0]) S rfl cb23 rfl rfl rfl (c23 (Kx K w.heap.size []) n w_33 x0 _ R0 et_35) ?_)
      rintro _ w_39 ⟨v_36, rfl, R_37, hb_38⟩; refine ⟨_, rfl, ?_⟩
      have NO_ := newO_of R_37 (Nat.le_refl _) hb_38
      replace R_37 := Ow.backO R_37 W
      clear S; intro a S
      replace R0 := R0.newO NO_
      replace R1 := R1.newO NO_
      replace W := W.newO NO_
      clear NO_
      refine wl_pureK (l' := [(12, v_36), (1, v1), (2, .bool x2)]) S tys tys_ok 1 [12, 1, 2] (by kernel_rfl) ?_
      clear S; intro a S
      refine wpList_nil ?_
      refine then_n ?_
      refine wp_seq ?_
      refine wp_region_lit ?_
      refine wl_pure (l' := [(55, v1), (54, v_36), (12, v_36), (1, v1), (2, .bool x2)]) S tys tys_ok 2 (by kernel_rfl) ?_
      clear S; intro a S
      obtain ⟨t_40, et_40, h⟩ := bindS h
      refine w_go S rfl (op_call (vs := [v_36, v1]) S rfl cb31 rfl rfl rfl (c31 K n w w_39 [] (⟨t_35.xs, t_35.cap⟩ : Sl ((Sl (Int)) × Bool × Bool × Bool × Int)) _ R_37 x1 _ R1 W et_40) ?_)
      rintro _ w_41 ⟨v_43, rfl, R_44, O_45, Y_42⟩; refine ⟨_, rfl, ?_⟩
      clear S; intro a S
      replace R1 : RepV (.sl (.int .u8)) w_41 (Kx K w.heap.size [v_36.ownBlock]) v1 x1 := RepV.yfr (P := [v_36.ownBlock]) [] R1 Y_42
      replace W : Wd w w_41 [v_36.ownBlock] := Wd.yfr (P := [v_36.ownBlock]) [] W Y_42
      replace O_45 : Ow gt2 37 w_41 w.heap.size (Kx K w.heap.size [v_36.ownBlock]) v_36 t_40.2 t_35.cap := O_45
      replace R_44 : RepV (.sl gt0) w_41 (Kx K w.heap.size [v_36.ownBlock]) v_43 t_40.1 := R_44
      refine wl_pureK (l' := [(13, v_43), (12, v_36), (1, v1), (2, .bool x2)]) S tys tys_ok 1 [13, 12, 1, 2] (by kernel_rfl) ?_
      clear S; intro a S
      refine wpList_nil ?_
      refine then_n ?_
      refine wp_seq ?_
      refine wp_region_lit ?_
      refine wl_pure (l' := [(14, .int .i64 0), (13, v_43), (12, v_36), (1, v1), (2, .bool x2)]) S tys tys_ok 1 (by kernel_rfl) ?_
      clear S; intro a S
      refine wpList_nil ?_
      refine then_n ?_
      refine wp_seq ?_
      obtain ⟨y_50, ey_50, h⟩ := bindS h
      refine wp_cut_ (fun a_ w_ => St 88 a_ [(1, v1), (2, .bool x2), (12, v_36), (13, v_43), (14, .int .i64 y_50)] ∧ Wd w w_ [v_36.ownBlock] ∧ InR .i64 y_50 ∧ RepV (.sl (.int .u8)) w_ (Kx K w.heap.size [v_36.ownBlock]) v1 x1 ∧ RepV (.sl gt0) w_ (Kx K w.heap.size [v_36.ownBlock]) v_43 t_40.1 ∧ Ow gt2 37 w_ w.heap.size (Kx K w.heap.size [v_36.ownBlock]) v_36 t_40.2 t_35.cap) ?_ ?_
      ·refine wp_block ?_
       refine wp_loop_n (fun m_ a_ w_ => ∃ (c_46 : Int) , St 88 a_ [(14, .int .i64 c_46), (13, v_43), (12, v_36), (1, v1), (2, .bool x2)] ∧ Wd w w_ [v_36.ownBlock] ∧ InR .i64 c_46 ∧ RepV (.sl gt0) w_ (Kx K w.heap.size [v_36.ownBlock]) v_43 t_40.1 ∧ RepV (.sl (.int .u8)) w_ (Kx K w.heap.size [v_36.ownBlock]) v1 x1 ∧ Ow gt2 37 w_ w.heap.size (Kx K w.heap.size [v_36.ownBlock]) v_36 t_40.2 t_35.cap ∧ p15_l1 n x1 t_35 t_40 m_ c_46 = some y_50) n ?_ ?_
       ·skip
        exact ⟨0, ⟨S.sub (by exact ⟨rfl, rfl, rfl, rfl, rfl, trivial⟩), W, (by decide), R_44, R1, O_45, ey_50⟩⟩
       ·clear S W; rintro m_52 a w_54 ⟨c_46, S, W, G_47, R_44, R1, O_45, hl_53⟩
        cases m_52 with
        | zero => exact absurd hl_53 (by simp [p15_l1])
        | succ m_52 =>
         refine ⟨m_52, rfl, ?_⟩
         rw [p15_l1] at hl_53
         refine wp_seq ?_
         refine wp_seq ?_
         refine wp_region_lit ?_
         refine wl_pure (l' := [(58, v_36), (57, .int .i64 c_46), (14, .int .i64 c_46), (13, v_43), (12, v_36), (1, v1), (2, .bool x2)]) S tys tys_ok 2 (by kernel_rfl) ?_
         clear S; intro a S
         refine w_go S rfl (op_len (K := _) S rfl ty25 rfl rfl rfl O_45.read ?_)
         clear S; intro a G_55 S
         refine wl_pureK (l' := [(61, .bool (decide (c_46 < (lenI (⟨t_40.2, t_35.cap⟩ : Sl ((Sl (Int)) × Bool × Bool × Bool × Int)))))), (14, .int .i64 c_46), (13, v_43), (12, v_36), (1, v1), (2, .bool x2)]) S tys tys_ok 2 [61, 14, 13, 12, 1, 2] (by kernel_rfl) ?_
         clear S; intro a S
         obtain ⟨q_56, eq_56, hl_53⟩ := bindS hl_53
         refine seg 9 (fun a_ w_ => St 88 a_ [(70, .bool q_56), (14, .int .i64 c_46), (13, v_43), (12, v_36), (1, v1), (2, .bool x2)] ∧ Wd w w_ [v_36.ownBlock] ∧ RepV (.sl gt0) w_ (Kx K w.heap.size [v_36.ownBlock]) v_43 t_40.1 ∧ RepV (.sl (.int .u8)) w_ (Kx K w.heap.size [v_36.ownBlock]) v1 x1 ∧ Ow gt2 37 w_ w.heap.size (Kx K w.heap.size [v_36.ownBlock]) v_36 t_40.2 t_35.cap) ?_ ?_
         ·by_cases hc : (decide (c_46 < (lenI (⟨t_40.2, t_35.cap⟩ : Sl ((Sl (Int)) × Bool × Bool × Bool × Int))))) = true
          ·rw [if_pos hc] at eq_56; rw [hc] at S
           refine wl_pure (l' := [(63, .int .i64 c_46), (62, v_36), (61, .bool true), (14, .int .i64 c_46), (13, v_43), (12, v_36), (1, v1), (2, .bool x2)]) S tys tys_ok 2 (by kernel_rfl) ?_
           clear S; intro a S
           obtain ⟨y_57, ey_57, eq_56⟩ := bindS eq_56
           refine w_go S rfl (op_indexAddr_own S rfl ty25 rfl rfl rfl O_45 rfl ey_57 ?_)
           clear S; intro a g_58 H_60 R_59 S
           refine wl_pure (l' := [(65, .pointer (some ((⟨g_58, c_46.toNat * GT.sz gt2, .none⟩ : Addr).add (coff gf2 0)))), (64, .pointer (some (⟨g_58, c_46.toNat * GT.sz gt2, .none⟩ : Addr))), (63, .int .i64 c_46), (62, v_36), (61, .bool true), (14, .int .i64 c_46), (13, v_43), (12, v_36), (1, v1), (2, .bool x2)]) S tys tys_ok 1 (by kernel_rfl) ?_
           clear S; intro a S
           refine w_go S rfl (op_load (t := (.sl (.int .u8))) (x := y_57.1) S rfl ty35 rfl rfl rfl (RepAt.add 0 (RepAt.st (t := gf2) R_59)) ?_)
           clear S; intro a v_61 R_62 S
           refine wl_pure (l' := [(67, v1), (66, v_61), (65, .pointer (some ((⟨g_58, c_46.toNat * GT.sz gt2, .none⟩ : Addr).add (coff gf2 0)))), (64, .pointer (some (⟨g_58, c_46.toNat * GT.sz gt2, .none⟩ : Addr))), (63, .int .i64 c_46), (62, v_36), (61, .bool true), (14, .int .i64 c_46), (13, v_43), (12, v_36), (1, v1), (2, .bool x2)]) S tys tys_ok 1 (by kernel_rfl) ?_
           clear S; intro a S
           obtain ⟨t_63, et_63, eq_56⟩ := bindS eq_56
           refine w_go S rfl (op_call (vs := [v_61, v1]) S rfl cb32 rfl rfl rfl (c32 (Kx K w.heap.size [v_36.ownBlock]) n w_54 y_57.1 _ R_62 x1 _ R1 et_63) ?_)
           rintro _ w_67 ⟨v_64, rfl, R_65, hb_66⟩; refine ⟨_, rfl, ?_⟩
           replace R_65 := RepV.back R_65 W
           clear S; intro a S
           replace R_44 := R_44.step hb_66
           replace R1 := R1.step hb_66
           replace R_62 := R_62.step hb_66
           replace O_45 := O_45.step hb_66
           replace W := W.step hb_66
           obtain ⟨rfl, GR_65⟩ := RepV.int R_65
           refine wl_pure (l' := [(70, .bool (decide (t_63 < 0))), (69, .bool (decide (t_63 < 0))), (68, .int .i64 t_63), (67, v1), (66, v_61), (65, .pointer (some ((⟨g_58, c_46.toNat * GT.sz gt2, .none⟩ : Addr).add (coff gf2 0)))), (64, .pointer (some (⟨g_58, c_46.toNat * GT.sz gt2, .none⟩ : Addr))), (63, .int .i64 c_46), (62, v_36), (61, .bool true), (14, .int .i64 c_46), (13, v_43), (12, v_36), (1, v1), (2, .bool x2)]) S tys tys_ok 2 (by kernel_rfl) ?_
           clear S; intro a S
           obtain rfl := Option.some.inj eq_56
           exact ⟨S.sub (by exact ⟨rfl, rfl, rfl, rfl, rfl, rfl, trivial⟩), W, R_44, R1, O_45⟩
          ·rw [if_neg hc] at eq_56; rw [show (decide (c_46 < (lenI (⟨t_40.2, t_35.cap⟩ : Sl ((Sl (Int)) × Bool × Bool × Bool × Int))))) = false from Bool.eq_false_iff.2 hc] at S
           refine wl_pure (l' := [(70, .bool false), (69, undef), (68, undef), (67, undef), (66, undef), (65, undef), (64, undef), (63, undef), (62, undef), (61, .bool false), (14, .int .i64 c_46), (13, v_43), (12, v_36), (1, v1), (2, .bool x2)]) S tys tys_ok 9 (by kernel_rfl) ?_
           clear S; intro a S
           obtain rfl := Option.some.inj eq_56
           exact ⟨S.sub (by exact ⟨rfl, rfl, rfl, rfl, rfl, rfl, trivial⟩), W, R_44, R1, O_45⟩
         clear S W eq_56; rintro a w_68 ⟨S, W, R_44, R1, O_45⟩
         refine wpList_nil ?_
         refine then_n ?_
         refine wp_cond_split (S.eval (show ev _ _ = some (.bool q_56) from rfl)) ?_ ?_
         ·intro hc
          rw [if_pos hc] at hl_53
          refine wp_skip ?_
          refine then_n ?_
          replace S := S.sub (l' := [(14, .int .i64 c_46), (13, v_43), (12, v_36), (1, v1), (2, .bool x2)]) (by exact ⟨rfl, rfl, rfl, rfl, rfl, trivial⟩)
          refine wp_block ?_
          refine wp_region_lit ?_
          refine wl_pure (l' := [(71, .int .i64 c_46), (14, .int .i64 c_46), (13, v_43), (12, v_36), (1, v1), (2, .bool x2)]) S tys tys_ok 1 (by kernel_rfl) ?_
          clear S; intro a S
          obtain ⟨x_69, ex_69, hl_53⟩ := bindS hl_53
          refine w_go S rfl (op_arith S .i64 (c_46 + 1) rfl (.inl rfl) rfl rfl rfl rfl ex_69 ?_)
          clear S; intro a S
          refine wl_pure (l' := [(14, .int .i64 x_69), (72, .int .i64 x_69), (71, .int .i64 c_46), (14, .int .i64 c_46), (13, v_43), (12, v_36), (1, v1), (2, .bool x2)]) S tys tys_ok 1 (by kernel_rfl) ?_
          clear S; intro a S
          refine wpList_nil ?_
          refine blk_n ?_
          refine then_n ?_
          exact ⟨x_69, ⟨S.sub (by exact ⟨rfl, rfl, rfl, rfl, rfl, trivial⟩), W, (ckI_some ex_69).2.1, R_44, R1, O_45, hl_53⟩⟩
         ·intro hc
          rw [if_neg (Bool.eq_false_iff.1 hc)] at hl_53
          refine wp_exit ?_
          refine then_x ?_
          refine then_x ?_
          refine blk_hit ?_
          refine then_n ?_
          obtain rfl := Option.some.inj hl_53
          exact ⟨S.sub (by exact ⟨rfl, rfl, rfl, rfl, rfl, trivial⟩), W, G_47, R1, R_44, O_45⟩
      clear S W; rintro a w_70 ⟨S, W, G_51, R1, R_44, O_45⟩
      refine then_n ?_
      refine wp_seq ?_
      have R_71 : RepV (.sl gt2) w_70 (Kx K w.heap.size []) v_36 (⟨t_40.2, t_35.cap⟩ : Sl ((Sl (Int)) × Bool × Bool × Bool × Int)) := O_45.pubAt W 0 rfl
      replace R1 : RepV (.sl (.int .u8)) w_70 (Kx K w.heap.size []) v1 x1 := R1.lessAt 0
      replace R_44 : RepV (.sl gt0) w_70 (Kx K w.heap.size []) v_43 t_40.1 := R_44.lessAt 0
      replace W : Wd w w_70 [] := W.lessAt 0
      obtain ⟨s_74, es_74, h⟩ := bindS h
      obtain ⟨t_75, et_75, h⟩ := bindS h
      obtain ⟨s_88, es_88, h⟩ := bindS h
      obtain ⟨t_93, et_93, h⟩ := bindS h
      obtain ⟨t_98, et_98, h⟩ := bindS h
      have hR : Rel (Kx K w.heap.size []) Bl := Bl.rel _
      refine wp_region_all hR [isRep (.sl gt2) (Kx K w.heap.size []) (⟨t_40.2, t_35.cap⟩ : Sl ((Sl (Int)) × Bool × Bool × Bool × Int)), isI .i64 y_50, isRep (.sl gt2) (Kx K w.heap.size []) s_74, isRep (.sl (.int .u8)) (Kx K w.heap.size []) x1, isRep (.sl (.int .u8)) (Kx K w.heap.size []) t_75, eqv (.bool x2), isRep gt2 (Kx K w.heap.size []) (t_75, false, x2, false, 0), isRep (.sl gt2) (Kx K w.heap.size []) (⟨[(t_75, false, x2, false, 0)], some 1⟩ : Sl ((Sl (Int)) × Bool × Bool × Bool × Int)), isRep (.sl gt2) (Kx K w.heap.size []) (⟨t_40.2, t_35.cap⟩ : Sl ((Sl (Int)) × Bool × Bool × Bool × Int)), isI .i64 y_50, isRep (.sl gt2) (Kx K w.heap.size []) s_88, isRep (.sl (.sl gt2)) (Kx K w.heap.size []) (⟨[s_74, (⟨[(t_75, false, x2, false, 0)], some 1⟩ : Sl ((Sl (Int)) × Bool × Bool × Bool × Int)), s_88], some 3⟩ : Sl (Sl ((Sl (Int)) × Bool × Bool × Bool × Int))), isRep (.sl gt2) (Kx K w.heap.size []) t_93, isRep (.sl gt2) (Kx K w.heap.size []) t_98, isRep (.sl gt0) (Kx K w.heap.size []) t_40.1, isRep (.sl gt2) (Kx K w.heap.size []) t_98, isRep (.sl gt0) (Kx K w.heap.size []) t_40.1, eqv (.int .i64 0)] [[], [], [(0, 73), (1, 74)], [], [(3, 76)], [], [(4, 77), (5, 78)], [(6, 79)], [], [], [(8, 81), (9, 82)], [(2, 75), (7, 80), (10, 83)], [(11, 84)], [(12, 85)], [], [(13, 86)], [(14, 87)], []] (by kernel_rfl) (by rw [S.size]; kernel_rfl) (by kernel_rfl) (by kernel_rfl) rfl ⟨(stab_rep hR), stab_I, (stab_rep hR), (stab_rep hR), (stab_rep hR), (stab_eqv _), (stab_rep hR), (stab_rep hR), (stab_rep hR), stab_I, (stab_rep hR), (stab_rep hR), (stab_rep hR), (stab_rep hR), (stab_rep hR), (stab_rep hR), (stab_rep hR), (stab_eqv _), trivial⟩ ?_ ?_
      ·
       refine RunAll.cons (isRep (.sl gt2) (Kx K w.heap.size []) (⟨t_40.2, t_35.cap⟩ : Sl ((Sl (Int)) × Bool × Bool × Bool × Int))) [] rfl rfl ?_ ?_
       ·intro W_ hW
        have S1 := S
        replace R_71 := R_71.step hW
        exact RPost.one (v := v_36) S1 tys tys_ok rfl (by kernel_rfl) S.defers R_71 (Below.refl _ _)
       refine RunAll.cons (isI .i64 y_50) [] rfl rfl ?_ ?_
       ·intro W_ hW
        have S1 := S
        exact RPost.one (v := .int .i64 y_50) S1 tys tys_ok rfl (by kernel_rfl) S.defers ⟨rfl, G_51⟩ (Below.refl _ _)
       refine RunAll.cons (isRep (.sl gt2) (Kx K w.heap.size []) s_74) [(isRep (.sl gt2) (Kx K w.heap.size []) (⟨t_40.2, t_35.cap⟩ : Sl ((Sl (Int)) × Bool × Bool × Bool × Int)), 73), (isI .i64 y_50, 74)] rfl rfl ?_ ?_
       ·intro W_ hW
        have S1 := S
        intro v_104 hF_103; replace hF_103 : RepV _ _ _ _ _ := hF_103
        replace S1 := S1.put (by decide : 73 < 88) (v_104)
        rintro _ ⟨rfl, hF_105⟩
        replace S1 := S1.put (by decide : 74 < 88) (.int .i64 y_50)
        refine fill_nil S1 ?_; clear S1; intro a_ S1
        have S0 := S.defers; replace S := S1; clear S1
        refine w_go S rfl (op_slice S rfl ty25 rfl rfl rfl hF_103 (.inl ⟨rfl, rfl⟩) (.inr ⟨_, _, rfl, rfl⟩) es_74 ?_)
        clear S; intro a v_107 R_108 S
        refine wpList_nil ?_
        exact RPost.mk_ S rfl S0 R_108 (Below.refl _ _)
       refine RunAll.cons (isRep (.sl (.int .u8)) (Kx K w.heap.size []) x1) [] rfl rfl ?_ ?_
       ·intro W_ hW
        have S1 := S
        replace R1 := R1.step hW
        exact RPost.one (v := v1) S1 tys tys_ok rfl (by kernel_rfl) S.defers R1 (Below.refl _ _)
       refine RunAll.cons (isRep (.sl (.int .u8)) (Kx K w.heap.size []) t_75) [(isRep (.sl (.int .u8)) (Kx K w.heap.size []) x1, 76)] rfl rfl ?_ ?_
       ·intro W_ hW
        have S1 := S
        intro v_110 hF_109; replace hF_109 : RepV _ _ _ _ _ := hF_109
        replace S1 := S1.put (by decide : 76 < 88) (v_110)
        refine fill_nil S1 ?_; clear S1; intro a_ S1
        replace W := W.step hW
        have S0 := S.defers; replace S := S1; clear S1
        refine w_go S rfl (op_call (vs := [v_110]) S rfl cb26 rfl rfl rfl (c26 (Kx K w.heap.size []) n W_ x1 _ hF_109 et_75) ?_)
        rintro _ w_114 ⟨v_111, rfl, R_112, hb_113⟩; refine ⟨_, rfl, ?_⟩
        replace R_112 := RepV.back R_112 W
        clear S; intro a S
        refine wpList_nil ?_
        exact RPost.mk_ S rfl S0 R_112 (hb_113)
       refine RunAll.cons (eqv (.bool x2)) [] rfl rfl ?_ ?_
       ·intro W_ hW
        have S1 := S
        exact RPost.one (v := .bool x2) S1 tys tys_ok rfl (by kernel_rfl) S.defers rfl (Below.refl _ _)
       refine RunAll.cons (isRep gt2 (Kx K w.heap.size []) (t_75, false, x2, false, 0)) [(isRep (.sl (.int .u8)) (Kx K w.heap.size []) t_75, 77), (eqv (.bool x2), 78)] rfl rfl ?_ ?_
       ·intro W_ hW
        have S1 := S
        intro v_116 hF_115; replace hF_115 : RepV _ _ _ _ _ := hF_115
        replace S1 := S1.put (by decide : 77 < 88) (v_116)
        intro v_118 hF_117; obtain rfl : .bool x2 = v_118 := Eq.symm hF_117
        replace S1 := S1.put (by decide : 78 < 88) (.bool x2)
        refine fill_nil S1 ?_; clear S1; intro a_ S1
        have S0 := S.defers; replace S := S1; clear S1
        refine w_go S rfl (op_build (K := (Kx K w.heap.size [])) (f := gf2) (z0 := (⟨[], some 0⟩, false, false, false, 0)) (x := (t_75, false, x2, false, 0)) (vs := [v_116, .bool x2]) S _ rfl ty37 z37 (fun w K => ⟨[.slice .none 0 0], [.bool false, .bool false, .bool false, .int .i64 0], rfl, ⟨.none, 0, 0, rfl, rfl, Nat.le_refl _, by decide, fun k h => Option.some.inj h, .inl rfl⟩, ⟨[.bool false], [.bool false, .bool false, .int .i64 0], rfl, rfl, ⟨[.bool false], [.bool false, .int .i64 0], rfl, rfl, ⟨[.bool false], [.int .i64 0], rfl, rfl, ⟨rfl, by decide⟩⟩⟩⟩⟩) rfl rfl rfl [(0, v_116), (2, .bool x2)] rfl ⟨_, hF_115, rfl, rfl, ⟨_, RepV.mkBool, rfl, rfl, rfl⟩⟩ ?_)
        clear S; intro a v_119 R_120 S
        refine wpList_nil ?_
        exact RPost.mk_ S rfl S0 R_120 (Below.refl _ _)
       refine RunAll.cons (isRep (.sl gt2) (Kx K w.heap.size []) (⟨[(t_75, false, x2, false, 0)], some 1⟩ : Sl ((Sl (Int)) × Bool × Bool × Bool × Int))) [(isRep gt2 (Kx K w.heap.size []) (t_75, false, x2, false, 0), 79)] rfl rfl ?_ ?_
       ·intro W_ hW
        have S1 := S
        intro v_122 hF_121; replace hF_121 : RepV _ _ _ _ _ := hF_121
        replace S1 := S1.put (by decide : 79 < 88) (v_122)
        refine fill_nil S1 ?_; clear S1; intro a_ S1
        replace W := W.step hW
        have S0 := S.defers; replace S := S1; clear S1
        refine w_go S rfl (op_buildSlice (K := K) (e := gt2) (vs := [v_122]) (xs := [(t_75, false, x2, false, 0)]) S W rfl ty25 rfl rfl (by kernel_rfl) rfl rfl rfl rfl rfl ⟨hF_121, trivial⟩ ?_)
        clear S; intro a w_126 v_123 hb_125 R_124 S
        refine wpList_nil ?_
        exact RPost.mk_ S rfl S0 R_124 (hb_125)
       refine RunAll.cons (isRep (.sl gt2) (Kx K w.heap.size []) (⟨t_40.2, t_35.cap⟩ : Sl ((Sl (Int)) × Bool × Bool × Bool × Int))) [] rfl rfl ?_ ?_
       ·intro W_ hW
        have S1 := S
        replace R_71 := R_71.step hW
        exact RPost.one (v := v_36) S1 tys tys_ok rfl (by kernel_rfl) S.defers R_71 (Below.refl _ _)
       refine RunAll.cons (isI .i64 y_50) [] rfl rfl ?_ ?_
       ·intro W_ hW
        have S1 := S
        exact RPost.one (v := .int .i64 y_50) S1 tys tys_ok rfl (by kernel_rfl) S.defers ⟨rfl, G_51⟩ (Below.refl _ _)
       refine RunAll.cons (isRep (.sl gt2) (Kx K w.heap.size []) s_88) [(isRep (.sl gt2) (Kx K w.heap.size []) (⟨t_40.2, t_35.cap⟩ : Sl ((Sl (Int)) × Bool × Bool × Bool × Int)), 81), (isI .i64 y_50, 82)] rfl rfl ?_ ?_
       ·intro W_ hW
        have S1 := S
        intro v_128 hF_127; replace hF_127 : RepV _ _ _ _ _ := hF_127
        replace S1 := S1.put (by decide : 81 < 88) (v_128)
        rintro _ ⟨rfl, hF_129⟩
        replace S1 := S1.put (by decide : 82 < 88) (.int .i64 y_50)
        refine fill_nil S1 ?_; clear S1; intro a_ S1
        have S0 := S.defers; replace S := S1; clear S1
        refine w_go S rfl (op_slice S rfl ty25 rfl rfl rfl hF_127 (.inr ⟨_, _, rfl, rfl⟩) (.inl ⟨rfl, rfl⟩) es_88 ?_)
        clear S; intro a v_131 R_132 S
        refine wpList_nil ?_
        exact RPost.mk_ S rfl S0 R_132 (Below.refl _ _)
       refine RunAll.cons (isRep (.sl (.sl gt2)) (Kx K w.heap.size []) (⟨[s_74, (⟨[(t_75, false, x2, false, 0)], some 1⟩ : Sl ((Sl (Int)) × Bool × Bool × Bool × Int)), s_88], some 3⟩ : Sl (Sl ((Sl (Int)) × Bool × Bool × Bool × Int)))) [(isRep (.sl gt2) (Kx K w.heap.size []) s_74, 75), (isRep (.sl gt2) (Kx K w.heap.size []) (⟨[(t_75, false, x2, false, 0)], some 1⟩ : Sl ((Sl (Int)) × Bool × Bool × Bool × Int)), 80), (isRep (.sl gt2) (Kx K w.heap.size []) s_88, 83)] rfl rfl ?_ ?_
       ·intro W_ hW
        have S1 := S
        intro v_134 hF_133; replace hF_133 : RepV _ _ _ _ _ := hF_133
        replace S1 := S1.put (by decide : 75 < 88) (v_134)
        intro v_136 hF_135; replace hF_135 : RepV _ _ _ _ _ := hF_135
        replace S1 := S1.put (by decide : 80 < 88) (v_136)
        intro v_138 hF_137; replace hF_137 : RepV _ _ _ _ _ := hF_137
        replace S1 := S1.put (by decide : 83 < 88) (v_138)
        refine fill_nil S1 ?_; clear S1; intro a_ S1
        replace W := W.step hW
        have S0 := S.defers; replace S := S1; clear S1
        refine w_go S rfl (op_buildSlice (K := K) (e := (.sl gt2)) (vs := [v_134, v_136, v_138]) (xs := [s_74, (⟨[(t_75, false, x2, false, 0)], some 1⟩ : Sl ((Sl (Int)) × Bool × Bool × Bool × Int)), s_88]) S W rfl ty73 rfl rfl (by kernel_rfl) rfl rfl rfl rfl rfl ⟨hF_133, hF_135, hF_137, trivial⟩ ?_)
        clear S; intro a w_142 v_139 hb_141 R_140 S
        refine wpList_nil ?_
        exact RPost.mk_ S rfl S0 R_140 (hb_141)
       refine RunAll.cons (isRep (.sl gt2) (Kx K w.heap.size []) t_93) [(isRep (.sl (.sl gt2)) (Kx K w.heap.size []) (⟨[s_74, (⟨[(t_75, false, x2, false, 0)], some 1⟩ : Sl ((Sl (Int)) × Bool × Bool × Bool × Int)), s_88], some 3⟩ : Sl (Sl ((Sl (Int)) × Bool × Bool × Bool × Int))), 84)] rfl rfl ?_ ?_
       ·intro W_ hW
        have S1 := S
        intro v_144 hF_143; replace hF_143 : RepV _ _ _ _ _ := hF_143
        replace S1 := S1.put (by decide : 84 < 88) (v_144)
        refine fill_nil S1 ?_; clear S1; intro a_ S1
        replace W := W.step hW
        have S0 := S.defers; replace S := S1; clear S1
        refine w_go S rfl (op_call (vs := [v_144]) S rfl cb33 rfl rfl rfl (c33 (Kx K w.heap.size []) n W_ (⟨[s_74, (⟨[(t_75, false, x2, false, 0)], some 1⟩ : Sl ((Sl (Int)) × Bool × Bool × Bool × Int)), s_88], some 3⟩ : Sl (Sl ((Sl (Int)) × Bool × Bool × Bool × Int))) _ hF_143 et_93) ?_)
        rintro _ w_148 ⟨v_145, rfl, R_146, hb_147⟩; refine ⟨_, rfl, ?_⟩
        replace R_146 := Ow.pub0 R_146
        replace R_146 := RepV.back R_146 W
        clear S; intro a S
        refine wpList_nil ?_
        exact RPost.mk_ S rfl S0 R_146 (hb_147)
       refine RunAll.cons (isRep (.sl gt2) (Kx K w.heap.size []) t_98) [(isRep (.sl gt2) (Kx K w.heap.size []) t_93, 85)] rfl rfl ?_ ?_
       ·intro W_ hW
        have S1 := S
        intro v_150 hF_149; replace hF_149 : RepV _ _ _ _ _ := hF_149
        replace S1 := S1.put (by decide : 85 < 88) (v_150)
        refine fill_nil S1 ?_; clear S1; intro a_ S1
        replace W := W.step hW
        have S0 := S.defers; replace S := S1; clear S1
        refine w_go S rfl (op_call (vs := [v_150]) S rfl cb23 rfl rfl rfl (c23 (Kx K w.heap.size []) n W_ t_93 _ hF_149 et_98) ?_)
        rintro _ w_154 ⟨v_151, rfl, R_152, hb_153⟩; refine ⟨_, rfl, ?_⟩
        replace R_152 := Ow.pub0 R_152
        replace R_152 := RepV.back R_152 W
        clear S; intro a S
        refine wpList_nil ?_
        exact RPost.mk_ S rfl S0 R_152 (hb_153)
       refine RunAll.cons (isRep (.sl gt0) (Kx K w.heap.size []) t_40.1) [] rfl rfl ?_ ?_
       ·intro W_ hW
        have S1 := S
        replace R_44 := R_44.step hW
        exact RPost.one (v := v_43) S1 tys tys_ok rfl (by kernel_rfl) S.defers R_44 (Below.refl _ _)
       refine RunAll.cons (isRep (.sl gt2) (Kx K w.heap.size []) t_98) [(isRep (.sl gt2) (Kx K w.heap.size []) t_98, 86)] rfl rfl ?_ ?_
       ·intro W_ hW
        have S1 := S
        intro v_156 hF_155; replace hF_155 : RepV _ _ _ _ _ := hF_155
        replace S1 := S1.put (by decide : 86 < 88) (v_156)
        exact RPost.one (v := v_156) S1 tys tys_ok rfl (by kernel_rfl) S.defers hF_155 (Below.refl _ _)
       refine RunAll.cons (isRep (.sl gt0) (Kx K w.heap.size []) t_40.1) [(isRep (.sl gt0) (Kx K w.heap.size []) t_40.1, 87)] rfl rfl ?_ ?_
       ·intro W_ hW
        have S1 := S
        intro v_158 hF_157; replace hF_157 : RepV _ _ _ _ _ := hF_157
        replace S1 := S1.put (by decide : 87 < 88) (v_158)
        exact RPost.one (v := v_158) S1 tys tys_ok rfl (by kernel_rfl) S.defers hF_157 (Below.refl _ _)
       refine RunAll.cons (eqv (.int .i64 0)) [] rfl rfl ?_ ?_
       ·intro W_ hW
        have S1 := S
        exact RPost.one (v := .int .i64 0) S1 tys tys_ok rfl (by kernel_rfl) S.defers rfl (Below.refl _ _)
       exact trivial
      intro w_159 hb_160
      refine EndE.some_ rfl ?_
      intro v_162 hF_161; replace hF_161 : RepV _ _ _ _ _ := hF_161
      replace S := S.put (by decide : 73 < 88) (v_162)
      refine EndE.some_ rfl ?_
      rintro _ ⟨rfl, hF_163⟩
      replace S := S.put (by decide : 74 < 88) (.int .i64 y_50)
      refine EndE.some_ rfl ?_
      intro v_166 hF_165; replace hF_165 : RepV _ _ _ _ _ := hF_165
      replace S := S.put (by decide : 75 < 88) (v_166)
      refine EndE.some_ rfl ?_
      intro v_168 hF_167; replace hF_167 : RepV _ _ _ _ _ := hF_167
      replace S := S.put (by decide : 76 < 88) (v_168)
      refine EndE.some_ rfl ?_
      intro v_170 hF_169; replace hF_169 : RepV _ _ _ _ _ := hF_169
      replace S := S.put (by decide : 77 < 88) (v_170)
      refine EndE.some_ rfl ?_
      intro v_172 hF_171; obtain rfl : .bool x2 = v_172 := Eq.symm hF_171
      replace S := S.put (by decide : 78 < 88) (.bool x2)
      refine EndE.some_ rfl ?_
      intro v_174 hF_173; replace hF_173 : RepV _ _ _ _ _ := hF_173
      replace S := S.put (by decide : 79 < 88) (v_174)
      refine EndE.some_ rfl ?_
      intro v_176 hF_175; replace hF_175 : RepV _ _ _ _ _ := hF_175
      replace S := S.put (by decide : 80 < 88) (v_176)
      refine EndE.some_ rfl ?_
      intro v_178 hF_177; replace hF_177 : RepV _ _ _ _ _ := hF_177
      replace S := S.put (by decide : 81 < 88) (v_178)
      refine EndE.some_ rfl ?_
      rintro _ ⟨rfl, hF_179⟩
      replace S := S.put (by decide : 82 < 88) (.int .i64 y_50)
      refine EndE.some_ rfl ?_
      intro v_182 hF_181; replace hF_181 : RepV _ _ _ _ _ := hF_181
      replace S := S.put (by decide : 83 < 88) (v_182)
      refine EndE.some_ rfl ?_
      intro v_184 hF_183; replace hF_183 : RepV _ _ _ _ _ := hF_183
      replace S := S.put (by decide : 84 < 88) (v_184)
      refine EndE.some_ rfl ?_
      intro v_186 hF_185; replace hF_185 : RepV _ _ _ _ _ := hF_185
      replace S := S.put (by decide : 85 < 88) (v_186)
      refine EndE.some_ rfl ?_
      intro v_188 hF_187; replace hF_187 : RepV _ _ _ _ _ := hF_187
      replace S := S.put (by decide : 86 < 88) (v_188)
      refine EndE.some_ rfl ?_
      intro v_190 hF_189; replace hF_189 : RepV _ _ _ _ _ := hF_189
      replace S := S.put (by decide : 87 < 88) (v_190)
      refine EndE.some_ rfl ?_
      intro v_192 hF_191; replace hF_191 : RepV _ _ _ _ _ := hF_191
      replace S := S.put (by decide : 6 < 88) (v_192)
      refine EndE.some_ rfl ?_
      intro v_194 hF_193; replace hF_193 : RepV _ _ _ _ _ := hF_193
      replace S := S.put (by decide : 7 < 88) (v_194)
      refine EndE.some_ rfl ?_
      intro v_196 hF_195; obtain rfl : .int .i64 0 = v_196 := Eq.symm hF_195
      replace S := S.put (by decide : 8 < 88) (.int .i64 0)
      refine endE_nil S ?_; clear S; intro a S
      replace R1 := R1.step hb_160
      replace R_71 := R_71.step hb_160
      replace R_44 := R_44.step hb_160
      replace W := W.step hb_160
      refine then_n ?_
      replace S := S.sub (l' := [(8, .int .i64 0), (7, v_194), (6, v_192)]) (by exact ⟨rfl, rfl, rfl, trivial⟩)
      refine wp_ret ?_
      obtain rfl := Option.some.inj h
      exact b_ret3 S rfl rfl rfl rfl ⟨_, _, _, rfl, hF_191.out, hF_193.out, (RepV.mkInt (by decide)), W.below⟩
theorem cb15 : callB Try.prog 15 = true := by kernel_rfl
def p35 (n : Nat) (x0 : (Sl (Int)) × Bool × Bool × Bool × Int) (y0 : Sl (Int)) : Option ((Bool)) :=
 (p36 n x0.1 y0).bind fun t_9 =>
 (if t_9 = false then (p37 n x0.1 y0).bind fun t_19 => some t_19 else some true).bind fun q_14 =>
 some q_14
set_option maxHeartbeats 4000000 in
set_option maxRecDepth 100000 in
/-- plugboard/suspends.Take$1 -/
theorem c35 (K : Nat → Prop) (n : Nat) (w : World) (x0 : (Sl (Int)) × Bool × Bool × Bool × Int) (v0 : Value) (R0 : RepV gt2 w K v0 x0) (q0 : Addr) (y0 : Sl (Int)) (Q0 : Br (.sl (.int .u8)) w K q0 y0) {r : (Bool)} (h : p35 n x0 y0 = some r) :
  Calls Try.prog 35 #[v0, .pointer (some q0)] w (Ret1 .bool w (Kx K w.heap.size []) r) := by
 refine enter (args := [v0, .pointer (some q0)]) Try.func35 rfl 14 rfl rfl fun a S => ?_
 have W := Wd.start w
 replace R0 := R0.arg
 unfold p35 at h
 replace S : St 14 a [(0, v0), (1, .pointer (some q0))] := S
 refine wp_seq ?_
 refine wp_region_lit ?_
 refine w_go S rfl (op_box S rfl rfl rfl rfl rfl R0 ?_)
 clear S; intro a w_3 b_1 hb_4 B_2 S
 replace R0 := R0.box hb_4
 replace W := W.box hb_4
 refine wl_pure (l' := [(3, .bool false), (2, pB b_1), (0, v0), (1, .pointer (some q0))]) S tys tys_ok 1 (by kernel_rfl) ?_
 clear S; intro a S
 refine wpList_nil ?_
 refine then_n ?_
 replace S := S.sub (l' := [(2, pB b_1), (1, .pointer (some q0))]) (by exact ⟨rfl, rfl, trivial⟩)
 refine wp_seq ?_
 refine wp_region_lit ?_
 refine wl_pure (l' := [(4, .pointer (some ((⟨b_1, 0, .none⟩ : Addr).add (coff gf2 0)))), (2, pB b_1), (1, .pointer (some q0))]) S tys tys_ok 1 (by kernel_rfl) ?_
 clear S; intro a S
 refine w_go S rfl (op_load (t := (.sl (.int .u8))) (x := x0.1) S rfl ty35 rfl rfl rfl (RepAt.add 0 (RepAt.st (t := gf2) B_2.at_)) ?_)
 clear S; intro a v_5 R_6 S
 refine w_go S rfl (op_load (t := (.sl (.int .u8))) (x := y0) S rfl ty35 rfl rfl rfl (Br.now Q0 W) ?_)
 clear S; intro a v_7 R_8 S
 obtain ⟨t_9, et_9, h⟩ := bindS h
 refine w_go S rfl (op_call (vs := [v_5, v_7]) S rfl cb36 rfl rfl rfl (c36 (Kx K w.heap.size [some b_1]) n w_3 x0.1 _ R_6 y0 _ R_8 et_9) ?_)
 rintro _ w_13 ⟨v_10, rfl, R_11, hb_12⟩; refine ⟨_, rfl, ?_⟩
 replace R_11 := RepV.back R_11 W
 clear S; intro a S
 replace R_6 := R_6.step hb_12
 replace R_8 := R_8.step hb_12
 replace B_2 := B_2.step hb_12
 replace W := W.step hb_12
 obtain rfl := RepV.bool R_11
 refine wl_pureK (l' := [(8, .bool t_9), (2, pB b_1), (1, .pointer (some q0))]) S tys tys_ok 1 [8, 2, 1] (by kernel_rfl) ?_
 clear S; intro a S
 obtain ⟨q_14, eq_14, h⟩ := bindS h
 refine seg 5 (fun a_ w_ => St 14 a_ [(13, .bool q_14)] ∧ Wd w w_ [some b_1] ∧ Bx gt2 37 w_ (Kx K w.heap.size [some b_1]) b_1 x0) ?_ ?_
 ·by_cases hc : t_9 = false
  ·rw [if_pos hc] at eq_14; rw [hc] at S
   refine wl_pure (l' := [(9, .pointer (some ((⟨b_1, 0, .none⟩ : Addr).add (coff gf2 0)))), (8, .bool false), (2, pB b_1), (1, .pointer (some q0))]) S tys tys_ok 1 (by kernel_rfl) ?_
   clear S; intro a S
   refine w_go S rfl (op_load (t := (.sl (.int .u8))) (x := x0.1) S rfl ty35 rfl rfl rfl (RepAt.add 0 (RepAt.st (t := gf2) B_2.at_)) ?_)
   clear S; intro a v_15 R_16 S
   refine w_go S rfl (op_load (t := (.sl (.int .u8))) (x := y0) S rfl ty35 rfl rfl rfl (Br.now Q0 W) ?_)
   clear S; intro a v_17 R_18 S
   obtain ⟨t_19, et_19, eq_14⟩ := bindS eq_14
   refine w_go S rfl (op_call (vs := [v_15, v_17]) S rfl cb37 rfl rfl rfl (c37 (Kx K w.heap.size [some b_1]) n w_13 x0.1 _ R_16 y0 _ R_18 et_19) ?_)
   rintro _ w_23 ⟨v_20, rfl, R_21, hb_22⟩; refine ⟨_, rfl, ?_⟩
   replace R_21 := RepV.back R_21 W
   clear S; intro a S
   replace R_16 := R_16.step hb_22
   replace R_18 := R_18.step hb_22
   replace B_2 := B_2.step hb_22
   replace W := W.step hb_22
   obtain rfl := RepV.bool R_21
   refine wl_pureK (l' := [(13, .bool t_19)]) S tys tys_ok 1 [13] (by kernel_rfl) ?_
   clear S; intro a S
   obtain rfl := Option.some.inj eq_14
   exact ⟨S.sub (by exact ⟨rfl, trivial⟩), W, B_2⟩
  ·rw [if_neg hc] at eq_14; rw [show t_9 = true from (by simpa using hc)] at S
   refine wl_pureK (l' := [(13, .bool true)]) S tys tys_ok 5 [13] (by kernel_rfl) ?_
   clear S; intro a S
   obtain rfl := Option.some.inj eq_14
   exact ⟨S.sub (by exact ⟨rfl, trivial⟩), W, B_2⟩
 clear S W eq_14; rintro a w_24 ⟨S, W, B_2⟩
 refine wl_pure (l' := [(3, .bool q_14), (13, .bool q_14)]) S tys tys_ok 1 (by kernel_rfl) ?_
 clear S; intro a S
 refine wpList_nil ?_
 refine then_n ?_
 replace S := S.sub (l' := [(3, .bool q_14)]) (by exact ⟨rfl, trivial⟩)
 refine wp_ret ?_
 obtain rfl := Option.some.inj h
 exact b_ret1 S rfl rfl ⟨_, rfl, RepV.mkBool, W.below⟩
theorem cb35 : callB Try.prog 35 = true := by kernel_rfl
def p45_35_l1 (n : Nat) (x0 : Sl ((Sl (Int)) × Bool × Bool × Bool × Int)) (y1_0 : Sl (Int)) : Nat → (Int) → Option ((Unit) ⊕ ((Int)))
 | 0, _ => .none
 | m + 1, c_2 => if (decide (c_2 < (lenI x0))) then ((idx x0.xs c_2).bind fun y_11 => (p35 n y_11 y1_0).bind fun t_17 => if t_17 then (some (.inr c_2)) else (ckI .i64 (c_2 + 1)).bind fun x_22 => p45_35_l1 n x0 y1_0 m x_22) else some (.inl ())
def p45_35 (n : Nat) (x0 : Sl ((Sl (Int)) × Bool × Bool × Bool × Int)) (y1_0 : Sl (Int)) : Option ((Int)) :=
 (p45_35_l1 n x0 y1_0 n 0).bind fun (y_6 : (Unit) ⊕ ((Int))) =>
 lrK y_6 some fun (s_7 : Unit) =>
 some (-1)
set_option maxHeartbeats 4000000 in
set_option maxRecDepth 100000 in
/-- slices.IndexFunc[plugboard/suspends.List,plugboard/suspends.Node] -/
theorem c45_35 (K : Nat → Prop) (n : Nat) (w : World) (x0 : Sl ((Sl (Int)) × Bool × Bool × Bool × Int)) (v0 : Value) (R0 : RepV (.sl gt2) w K v0 x0) (q1_0 : Addr) (y1_0 : Sl (Int)) (Q1_0 : Br (.sl (.int .u8)) w K q1_0 y1_0) {r : (Int)} (h : p45_35 n x0 y1_0 = some r) :
  Calls Try.prog 45 #[v0, .func (.func 35) #[] #[.pointer (some q1_0)]] w (Ret1 (.int .i64) w (Kx K w.heap.size []) r) := by
 refine enter (args := [v0, .func (.func 35) #[] #[.pointer (some q1_0)]]) Try.func45 rfl 19 rfl rfl fun a S => ?_
 have W := Wd.start w
 replace R0 := R0.arg
 unfold p45_35 at h
 replace S : St 19 a [(0, v0), (1, .func (.func 35) #[] #[.pointer (some q1_0)])] := S
 refine wp_seq ?_
 refine wp_region_lit ?_
 refine wl_pure (l' := [(4, .int .i64 0), (0, v0), (1, .func (.func 35) #[] #[.pointer (some q1_0)])]) S tys tys_ok 1 (by kernel_rfl) ?_
 clear S; intro a S
 refine wpList_nil ?_
 refine then_n ?_
 replace S := S.sub (l' := [(0, v0), (1, .func (.func 35) #[] #[.pointer (some q1_0)])]) (by exact ⟨rfl, rfl, trivial⟩)
 refine wp_seq ?_
 refine wp_seq ?_
 refine wp_region_lit ?_
 refine wl_pure (l' := [(6, v0), (0, v0), (1, .func (.func 35) #[] #[.pointer (some q1_0)])]) S tys tys_ok 1 (by kernel_rfl) ?_
 clear S; intro a S
 refine w_go S rfl (op_len (K := _) S rfl ty25 rfl rfl rfl R0 ?_)
 clear S; intro a G_1 S
 refine wl_pure (l' := [(8, .int .i64 0), (7, .int .i64 (lenI x0)), (6, v0), (0, v0), (1, .func (.func 35) #[] #[.pointer (some q1_0)])]) S tys tys_ok 1 (by kernel_rfl) ?_
 clear S; intro a S
 refine wpList_nil ?_
 refine then_n ?_
 replace S := S.sub (l' := [(8, .int .i64 0), (7, .int .i64 (lenI x0)), (0, v0), (1, .func (.func 35) #[] #[.pointer (some q1_0)])]) (by exact ⟨rfl, rfl, rfl, rfl, trivial⟩)
 obtain ⟨y_6, ey_6, h⟩ := bindS h
 refine wp_cut_ (fun a_ w_ => ∃ s_7 : Unit, y_6 = .inl s_7 ∧ (St 19 a_ [] ∧ Wd w w_ [])) ?_ ?_
 ·refine wp_block ?_
  refine wp_loop_n (fun m_ a_ w_ => ∃ (c_2 : Int) , St 19 a_ [(8, .int .i64 c_2), (7, .int .i64 (lenI x0)), (0, v0), (1, .func (.func 35) #[] #[.pointer (some q1_0)])] ∧ Wd w w_ [] ∧ InR .i64 c_2 ∧ RepV (.sl gt2) w_ (Kx K w.heap.size []) v0 x0 ∧ p45_35_l1 n x0 y1_0 m_ c_2 = some y_6) n ?_ ?_
  ·skip
   exact ⟨0, ⟨S.sub (by exact ⟨rfl, rfl, rfl, rfl, trivial⟩), W, (by decide), R0, ey_6⟩⟩
  ·clear S W; rintro m_8 a w_10 ⟨c_2, S, W, G_3, R0, hl_9⟩
   cases m_8 with
   | zero => exact absurd hl_9 (by simp [p45_35_l1])
   | succ m_8 =>
    refine ⟨m_8, rfl, ?_⟩
    rw [p45_35_l1] at hl_9
    refine wp_seq ?_
    refine wp_region_lit ?_
    refine wl_pure (l' := [(9, .bool (decide (c_2 < (lenI x0)))), (8, .int .i64 c_2), (7, .int .i64 (lenI x0)), (0, v0), (1, .func (.func 35) #[] #[.pointer (some q1_0)])]) S tys tys_ok 1 (by kernel_rfl) ?_
    clear S; intro a S
    refine wpList_nil ?_
    refine then_n ?_
    refine wp_seq ?_
    refine wp_cond_split (S.eval (show ev _ _ = some (.bool (decide (c_2 < (lenI x0)))) from rfl)) ?_ ?_
    ·intro hc
     rw [if_pos hc] at hl_9
     refine wp_skip ?_
     refine then_n ?_
     replace S := S.sub (l' := [(8, .int .i64 c_2), (7, .int .i64 (lenI x0)), (0, v0), (1, .func (.func 35) #[] #[.pointer (some q1_0)])]) (by exact ⟨rfl, rfl, rfl, rfl, trivial⟩)
     refine wp_seq ?_
     refine wp_block ?_
     refine wp_seq ?_
     refine wp_region_lit ?_
     refine wl_pure (l' := [(5, .int .i64 c_2), (10, .int .i64 c_2), (8, .int .i64 c_2), (7, .int .i64 (lenI x0)), (0, v0), (1, .func (.func 35) #[] #[.pointer (some q1_0)])]) S tys tys_ok 2 (by kernel_rfl) ?_
     clear S; intro a S
     refine wpList_nil ?_
     refine then_n ?_
     replace S := S.sub (l' := [(5, .int .i64 c_2), (8, .int .i64 c_2), (7, .int .i64 (lenI x0)), (0, v0), (1, .func (.func 35) #[] #[.pointer (some q1_0)])]) (by exact ⟨rfl, rfl, rfl, rfl, rfl, trivial⟩)
     refine wp_seq ?_
     refine wp_region_lit ?_
     refine wl_pure (l' := [(13, .int .i64 c_2), (12, v0), (11, .func (.func 35) #[] #[.pointer (some q1_0)]), (5, .int .i64 c_2), (8, .int .i64 c_2), (7, .int .i64 (lenI x0)), (0, v0), (1, .func (.func 35) #[] #[.pointer (some q1_0)])]) S tys tys_ok 3 (by kernel_rfl) ?_
     clear S; intro a S
     obtain ⟨y_11, ey_11, hl_9⟩ := bindS hl_9
     refine w_go S rfl (op_indexAddr S rfl ty25 rfl rfl rfl R0 rfl ey_11 ?_)
     clear S; intro a p_12 R_13 H_14 S
     refine w_go S rfl (op_load (t := gt2) (x := y_11) S rfl ty37 rfl rfl rfl R_13 ?_)
     clear S; intro a v_15 R_16 S
     obtain ⟨t_17, et_17, hl_9⟩ := bindS hl_9
     refine w_go S rfl (op_calld (vs := [v_15]) S rfl rfl cb35 rfl rfl rfl (c35 (Kx K w.heap.size []) n w_10 y_11 _ R_16 _ y1_0 (Br.again Q1_0 W) et_17) ?_)
     rintro _ w_21 ⟨v_18, rfl, R_19, hb_20⟩; refine ⟨_, rfl, ?_⟩
     replace R_19 := RepV.back R_19 W
     clear S; intro a S
     replace R0 := R0.step hb_20
     replace R_16 := R_16.step hb_20
     replace W := W.step hb_20
     obtain rfl := RepV.bool R_19
     refine wpList_nil ?_
     refine then_n ?_
     replace S := S.sub (l' := [(16, .bool t_17), (5, .int .i64 c_2), (8, .int .i64 c_2), (7, .int .i64 (lenI x0)), (0, v0), (1, .func (.func 35) #[] #[.pointer (some q1_0)])]) (by exact ⟨rfl, rfl, rfl, rfl, rfl, rfl, trivial⟩)
     refine wp_cond_split (S.eval (show ev _ _ = some (.bool t_17) from rfl)) ?_ ?_
     ·intro hc
      rw [if_pos hc] at hl_9
      refine wp_seq ?_
      refine wp_region_lit ?_
      refine wl_pureK (l' := [(4, .int .i64 c_2)]) S tys tys_ok 2 [4] (by kernel_rfl) ?_
      clear S; intro a S
      refine wpList_nil ?_
      refine then_n ?_
      refine wp_ret ?_
      refine blk_r ?_
      refine then_r ?_
      refine then_r ?_
      refine blk_r ?_
      refine then_r ?_
      refine then_r ?_
      obtain rfl := Option.some.inj hl_9
      obtain rfl := lr_inr h
      exact b_ret1 S rfl rfl ⟨_, rfl, (RepV.mkInt G_3), W.below⟩
     ·intro hc
      rw [if_neg (Bool.eq_false_iff.1 hc)] at hl_9
      refine wp_skip ?_
      refine blk_n ?_
      refine then_n ?_
      replace S := S.sub (l' := [(8, .int .i64 c_2), (7, .int .i64 (lenI x0)), (0, v0), (1, .func (.func 35) #[] #[.pointer (some q1_0)])]) (by exact ⟨rfl, rfl, rfl, rfl, trivial⟩)
      refine wp_region_lit ?_
      obtain ⟨x_22, ex_22, hl_9⟩ := bindS hl_9
      refine w_go S rfl (op_arith S .i64 (c_2 + 1) rfl (.inl rfl) rfl rfl rfl rfl ex_22 ?_)
      clear S; intro a S
      refine wl_pure (l' := [(8, .int .i64 x_22), (18, .int .i64 x_22), (8, .int .i64 c_2), (7, .int .i64 (lenI x0)), (0, v0), (1, .func (.func 35) #[] #[.pointer (some q1_0)])]) S tys tys_ok 1 (by kernel_rfl) ?_
      clear S; intro a S
      refine wpList_nil ?_
      refine then_n ?_
      exact ⟨x_22, ⟨S.sub (by exact ⟨rfl, rfl, rfl, rfl, trivial⟩), W, (ckI_some ex_22).2.1, R0, hl_9⟩⟩
    ·intro hc
     rw [if_neg (Bool.eq_false_iff.1 hc)] at hl_9
     refine wp_exit ?_
     refine then_x ?_
     refine then_x ?_
     refine blk_hit ?_
     refine then_n ?_
     obtain rfl := Option.some.inj hl_9
     exact ⟨_, rfl, ⟨S.sub trivial, W⟩⟩
 clear S W; rintro a w_23 ⟨s_7, rfl, S, W⟩
 replace h := lr_inl h; try dsimp only at h
 refine then_n ?_
 refine wp_seq ?_
 refine wp_region_lit ?_
 refine wl_pure (l' := [(4, .int .i64 (-1))]) S tys tys_ok 1 (by kernel_rfl) ?_
 clear S; intro a S
 refine wpList_nil ?_
 refine then_n ?_
 refine wp_ret ?_
 obtain rfl := Option.some.inj h
 exact b_ret1 S rfl rfl ⟨_, rfl, (RepV.mkInt (by decide)), W.below⟩
def p34_35_l1 (n : Nat) (x0 : Sl ((Sl (Int)) × Bool × Bool × Bool × Int)) (y1_0 : Sl (Int)) : Nat → (Int) → (Int) → (List ((Sl (Int)) × Bool × Bool × Bool × Int)) → Option ((List ((Sl (Int)) × Bool × Bool × Bool × Int)) × (Int))
 | 0, _, _, _ => .none
 | m + 1, c_8, c_10, c_12 => if (decide (c_8 < (lenI (⟨c_12, x0.cap⟩ : Sl ((Sl (Int)) × Bool × Bool × Bool × Int))))) then ((idx c_12 c_8).bind fun y_30 => (p35 n y_30 y1_0).bind fun t_44 => (if (!t_44) then ((idx c_12 c_10).bind fun y_55 => (ckI .i64 (c_10 + 1)).bind fun x_63 => some (x_63, (c_12.set c_10.toNat y_30))) else some (c_10, c_12)).bind fun (j_49 : (Int) × (List ((Sl (Int)) × Bool × Bool × Bool × Int))) => (ckI .i64 (c_8 + 1)).bind fun x_65 => p34_35_l1 n x0 y1_0 m x_65 j_49.1 j_49.2) else some (c_12, c_10)
def p34_35 (n : Nat) (x0 : Sl ((Sl (Int)) × Bool × Bool × Bool × Int)) (y1_0 : Sl (Int)) : Option ((Sl ((Sl (Int)) × Bool × Bool × Bool × Int))) :=
 (p45_35 n (⟨x0.xs, x0.cap⟩ : Sl ((Sl (Int)) × Bool × Bool × Bool × Int)) y1_0).bind fun t_1 =>
 if (t_1 == (-1)) then (some (⟨x0.xs, x0.cap⟩ : Sl ((Sl (Int)) × Bool × Bool × Bool × Int))) else (ckI .i64 (t_1 + 1)).bind fun x_7 => (p34_35_l1 n x0 y1_0 n x_7 t_1 x0.xs).bind fun (y_22 : (List ((Sl (Int)) × Bool × Bool × Bool × Int)) × (Int)) => (subI y_22.1 y_22.2).bind fun m_67 => (cutI (y_22.1.take m_67 ++ List.replicate (y_22.1.length - m_67) ((⟨[], some 0⟩, false, false, false, 0) : (Sl (Int)) × Bool × Bool × Bool × Int)) y_22.2).bind fun l_73 => some (⟨l_73, x0.cap⟩ : Sl ((Sl (Int)) × Bool × Bool × Bool × Int))
set_option maxHeartbeats 4000000 in
set_option maxRecDepth 100000 in
/-- slices.DeleteFunc[plugboard/suspends.List,plugboard/suspends.Node] -/
theorem c34_35 (K : Nat → Prop) (n : Nat) (w wA : World) (LO : List (Option Nat)) (x0 : Sl ((Sl (Int)) × Bool × Bool × Bool × Int)) (v0 : Value) (O0 : Ow gt2 37 wA w.heap.size (Kx K w.heap.size (v0.ownBlock :: LO)) v0 x0.xs x0.cap) (q1_0 : Addr) (y1_0 : Sl (Int)) (Q1_0 : Pr (.sl (.int .u8)) wA (Kx K w.heap.size (v0.ownBlock :: LO)) q1_0 y1_0) (W : Wd w wA (v0.ownBlock :: LO)) {r : (Sl ((Sl (Int)) × Bool × Bool × Bool × Int))} (h : p34_35 n x0 y1_0 = some r) :
  Calls Try.prog 34 #[v0, .func (.func 35) #[] #[.pointer (some q1_0)]] wA (fun e_ w_ => ∃ v0_ : Value, e_ = .returned v0_ ∧ RepV (.sl gt2) w_ (Kx K w.heap.size (LO)) v0_ r ∧ Yst w.heap.size wA [v0.ownBlock] w_ []) := by
 refine enter (args := [v0, .func (.func 35) #[] #[.pointer (some q1_0)]]) Try.func34 rfl 42 rfl rfl fun a S => ?_
 have RD := Rnd.start wA [v0.ownBlock]
 unfold p34_35 at h
 replace S : St 42 a [(0, v0), (1, .func (.func 35) #[] #[.pointer (some q1_0)])] := S
 refine wp_seq ?_
 refine wp_region_lit ?_
 refine wl_pure (l' := [(4, .slice .none 0 0), (0, v0), (1, .func (.func 35) #[] #[.pointer (some q1_0)])]) S tys tys_ok 1 (by kernel_rfl) ?_
 clear S; intro a S
 refine wpList_nil ?_
 refine then_n ?_
 replace S := S.sub (l' := [(0, v0), (1, .func (.func 35) #[] #[.pointer (some q1_0)])]) (by exact ⟨rfl, rfl, trivial⟩)
 refine wp_seq ?_
 refine wp_region_lit ?_
 refine wl_pure (l' := [(9, .func (.func 35) #[] #[.pointer (some q1_0)]), (8, v0), (0, v0), (1, .func (.func 35) #[] #[.pointer (some q1_0)])]) S tys tys_ok 2 (by kernel_rfl) ?_
 clear S; intro a S
 obtain ⟨t_1, et_1, h⟩ := bindS h
 refine w_go S rfl (op_call (vs := [v0, .func (.func 35) #[] #[.pointer (some q1_0)]]) S rfl cb45 rfl rfl rfl (c45_35 (Kx K w.heap.size []) n wA (⟨x0.xs, x0.cap⟩ : Sl ((Sl (Int)) × Bool × Bool × Bool × Int)) _ (Ow.read O0) _ y1_0 (Br.free (Pr.br Q1_0)) et_1) ?_)
 rintro _ w_5 ⟨v_2, rfl, R_3, hb_4⟩; refine ⟨_, rfl, ?_⟩
 clear S; intro a S
 replace Q1_0 := Q1_0.step hb_4
 replace O0 := O0.step hb_4
 replace RD := RD.step hb_4
 replace W := W.step hb_4
 obtain ⟨rfl, GR_3⟩ := RepV.int R_3
 refine wl_pureK (l' := [(5, .int .i64 t_1), (0, v0), (1, .func (.func 35) #[] #[.pointer (some q1_0)])]) S tys tys_ok 1 [5, 0, 1] (by kernel_rfl) ?_
 clear S; intro a S
 refine wpList_nil ?_
 refine then_n ?_
 refine wp_seq ?_
 refine wp_seq ?_
 refine wp_region_lit ?_
 refine wl_pure (l' := [(12, .bool (t_1 == (-1))), (11, .int .i64 t_1), (5, .int .i64 t_1), (0, v0), (1, .func (.func 35) #[] #[.pointer (some q1_0)])]) S tys tys_ok 2 (by kernel_rfl) ?_
 clear S; intro a S
 refine wpList_nil ?_
 refine then_n ?_
 replace S := S.sub (l' := [(12, .bool (t_1 == (-1))), (5, .int .i64 t_1), (0, v0), (1, .func (.func 35) #[] #[.pointer (some q1_0)])]) (by exact ⟨rfl, rfl, rfl, rfl, trivial⟩)
 refine wp_cond_split (S.eval (show ev _ _ = some (.bool (t_1 == (-1))) from rfl)) ?_ ?_
 ·intro hc
  rw [if_pos hc] at h
  refine wp_seq ?_
  refine wp_region_lit ?_
  refine wl_pureK (l' := [(4, v0)]) S tys tys_ok 2 [4] (by kernel_rfl) ?_
  clear S; intro a S
  refine wpList_nil ?_
  refine then_n ?_
  refine wp_ret ?_
  refine then_r ?_
  have R_6 : RepV (.sl gt2) w_5 (Kx K w.heap.size LO) v0 (⟨x0.xs, x0.cap⟩ : Sl ((Sl (Int)) × Bool × Bool × Bool × Int)) := O0.pubAt W 0 rfl
  replace RD : Rnd wA [v0.ownBlock] w_5 [] := RD.lessAt 0
  replace W : Wd w w_5 LO := W.lessAt 0
  obtain rfl := Option.some.inj h
  exact b_res1 S rfl (res_tmp S rfl) ⟨_, rfl, R_6, Rnd.yst RD (Wd.front (P := []) (LO := LO) W)⟩
 ·intro hc
  rw [if_neg (Bool.eq_false_iff.1 hc)] at h
  refine wp_skip ?_
  refine then_n ?_
  replace S := S.sub (l' := [(5, .int .i64 t_1), (0, v0), (1, .func (.func 35) #[] #[.pointer (some q1_0)])]) (by exact ⟨rfl, rfl, rfl, trivial⟩)
  refine wp_seq ?_
  refine wp_seq ?_
  refine wp_region_lit ?_
  refine wl_pure (l' := [(14, .int .i64 t_1), (5, .int .i64 t_1), (0, v0), (1, .func (.func 35) #[] #[.pointer (some q1_0)])]) S tys tys_ok 1 (by kernel_rfl) ?_
  clear S; intro a S
  obtain ⟨x_7, ex_7, h⟩ := bindS h
  refine w_go S rfl (op_arith S .i64 (t_1 + 1) rfl (.inl rfl) rfl rfl rfl rfl ex_7 ?_)
  clear S; intro a S
  refine wl_pure (l' := [(6, .int .i64 x_7), (15, .int .i64 x_7), (14, .int .i64 t_1), (5, .int .i64 t_1), (0, v0), (1, .func (.func 35) #[] #[.pointer (some q1_0)])]) S tys tys_ok 1 (by kernel_rfl) ?_
  clear S; intro a S
  refine wpList_nil ?_
  refine then_n ?_
  replace S := S.sub (l' := [(6, .int .i64 x_7), (5, .int .i64 t_1), (0, v0), (1, .func (.func 35) #[] #[.pointer (some q1_0)])]) (by exact ⟨rfl, rfl, rfl, rfl, trivial⟩)
  obtain ⟨y_22, ey_22, h⟩ := bindS h
  refine wp_cut_ (fun a_ w_ => St 42 a_ [(0, v0), (5, .int .i64 y_22.2)] ∧ Wd w w_ (v0.ownBlock :: LO) ∧ InR .i64 y_22.2 ∧ Ow gt2 37 w_ w.heap.size (Kx K w.heap.size (v0.ownBlock :: LO)) v0 y_22.1 x0.cap ∧ Rnd wA [v0.ownBlock] w_ [v0.ownBlock]) ?_ ?_
  ·refine wp_block ?_
   refine wp_loop_n (fun m_ a_ w_ => ∃ (c_8 : Int) (c_10 : Int) (c_12 : List ((Sl (Int)) × Bool × Bool × Bool × Int)) , St 42 a_ [(6, .int .i64 c_8), (5, .int .i64 c_10), (0, v0), (1, .func (.func 35) #[] #[.pointer (some q1_0)])] ∧ Wd w w_ (v0.ownBlock :: LO) ∧ InR .i64 c_8 ∧ InR .i64 c_10 ∧ Pr (.sl (.int .u8)) w_ (Kx K w.heap.size (v0.ownBlock :: LO)) q1_0 y1_0 ∧ Ow gt2 37 w_ w.heap.size (Kx K w.heap.size (v0.ownBlock :: LO)) v0 c_12 x0.cap ∧ Rnd wA [v0.ownBlock] w_ [v0.ownBlock] ∧ p34_35_l1 n x0 y1_0 m_ c_8 c_10 c_12 = some y_22) n ?_ ?_
   ·skip
    exact ⟨x_7, t_1, x0.xs, ⟨S.sub (by exact ⟨rfl, rfl, rfl, rfl, trivial⟩), W, (ckI_some ex_7).2.1, GR_3, Q1_0, O0, RD, ey_22⟩⟩
   ·clear S W; rintro m_26 a w_28 ⟨c_8, c_10, c_12, S, W, G_9, G_11, Q1_0, O_14, RD, hl_27⟩
    cases m_26 with
    | zero => exact absurd hl_27 (by simp [p34_35_l1])
    | succ m_26 =>
     refine ⟨m_26, rfl, ?_⟩
     rw [p34_35_l1] at hl_27
     refine wp_seq ?_
     refine wp_seq ?_
     refine wp_region_lit ?_
     refine wl_pure (l' := [(17, v0), (16, .int .i64 c_8), (6, .int .i64 c_8), (5, .int .i64 c_10), (0, v0), (1, .func (.func 35) #[] #[.pointer (some q1_0)])]) S tys tys_ok 2 (by kernel_rfl) ?_
     clear S; intro a S
     refine w_go S rfl (op_len (K := _) S rfl ty25 rfl rfl rfl O_14.read ?_)
     clear S; intro a G_29 S
     refine wl_pureK (l' := [(19, .bool (decide (c_8 < (lenI (⟨c_12, x0.cap⟩ : Sl ((Sl (Int)) × Bool × Bool × Bool × Int)))))), (6, .int .i64 c_8), (5, .int .i64 c_10), (0, v0), (1, .func (.func 35) #[] #[.pointer (some q1_0)])]) S tys tys_ok 1 [19, 6, 5, 0, 1] (by kernel_rfl) ?_
     clear S; intro a S
     refine wpList_nil ?_
     refine then_n ?_
     refine wp_cond_split (S.eval (show ev _ _ = some (.bool (decide (c_8 < (lenI (⟨c_12, x0.cap⟩ : Sl ((Sl (Int)) × Bool × Bool × Bool × Int)))))) from rfl)) ?_ ?_
     ·intro hc
      rw [if_pos hc] at hl_27
      refine wp_skip ?_
      refine then_n ?_
      replace S := S.sub (l' := [(6, .int .i64 c_8), (5, .int .i64 c_10), (0, v0), (1, .func (.func 35) #[] #[.pointer (some q1_0)])]) (by exact ⟨rfl, rfl, rfl, rfl, trivial⟩)
      refine wp_seq ?_
      refine wp_block ?_
      refine wp_seq ?_
      refine wp_region_lit ?_
      refine wl_pure (l' := [(23, .int .i64 c_8), (22, v0), (6, .int .i64 c_8), (5, .int .i64 c_10), (0, v0), (1, .func (.func 35) #[] #[.pointer (some q1_0)])]) S tys tys_ok 2 (by kernel_rfl) ?_
      clear S; intro a S
      obtain ⟨y_30, ey_30, hl_27⟩ := bindS hl_27
      refine w_go S rfl (op_indexAddr_own S rfl ty25 rfl rfl rfl O_14 rfl ey_30 ?_)
      clear S; intro a g_31 H_33 R_32 S
      refine w_go S rfl (op_load (t := gt2) (x := y_30) S rfl ty37 rfl rfl rfl R_32 ?_)
      clear S; intro a v_34 R_35 S
      refine w_go S rfl (op_alloc (K := K) (n := w.heap.size) (L := (v0.ownBlock :: LO)) (t := gt2) (y := (⟨[], some 0⟩, false, false, false, 0)) S rfl rfl rfl _ z37 (fun w K => ⟨[.slice .none 0 0], [.bool false, .bool false, .bool false, .int .i64 0], rfl, ⟨.none, 0, 0, rfl, rfl, Nat.le_refl _, by decide, fun k h => Option.some.inj h, .inl rfl⟩, ⟨[.bool false], [.bool false, .bool false, .int .i64 0], rfl, rfl, ⟨[.bool false], [.bool false, .int .i64 0], rfl, rfl, ⟨[.bool false], [.int .i64 0], rfl, rfl, ⟨rfl, by decide⟩⟩⟩⟩⟩) ?_)
      clear S; intro a w_38 b_36 hb_39 B_37 S
      replace Q1_0 := Q1_0.box hb_39
      replace R_35 := R_35.box hb_39
      replace O_14 := O_14.box hb_39
      replace RD := RD.box hb_39
      replace W := W.box hb_39
      refine w_go S rfl (op_store (t' := gt2) S rfl rfl ty37 rfl rfl rfl B_37 (by simp) Ln.whole R_35 ?_)
      intro w_40 hw_41 B_
      replace Q1_0 := Q1_0.wrote hw_41 (by simp)
      replace R_35 := R_35.wrote hw_41 (by simp)
      replace O_14 := O_14.wrote hw_41 (by simp) (W.one (p := 1) (q := 0) (by decide) rfl rfl)
      replace RD := RD.wrote hw_41 (by simp)
      replace W := W.wrote hw_41 (by simp)
      replace B_37 : Bx gt2 37 w_40 (Kx K w.heap.size (some b_36 :: v0.ownBlock :: LO)) b_36 y_30 := B_; clear B_
      refine wpList_nil ?_
      refine then_n ?_
      replace S := S.sub (l' := [(7, pB b_36), (6, .int .i64 c_8), (5, .int .i64 c_10), (0, v0), (1, .func (.func 35) #[] #[.pointer (some q1_0)])]) (by exact ⟨rfl, rfl, rfl, rfl, rfl, trivial⟩)
      refine wp_seq ?_
      refine wp_region_lit ?_
      refine wl_pure (l' := [(26, .func (.func 35) #[] #[.pointer (some q1_0)]), (7, pB b_36), (6, .int .i64 c_8), (5, .int .i64 c_10), (0, v0), (1, .func (.func 35) #[] #[.pointer (some q1_0)])]) S tys tys_ok 1 (by kernel_rfl) ?_
      clear S; intro a S
      refine w_go S rfl (op_load (t := gt2) (x := y_30) S rfl ty37 rfl rfl rfl B_37.at_ ?_)
      clear S; intro a v_42 R_43 S
      obtain ⟨t_44, et_44, hl_27⟩ := bindS hl_27
      refine w_go S rfl (op_calld (vs := [v_42]) S rfl rfl cb35 rfl rfl rfl (c35 (Kx K w.heap.size (some b_36 :: v0.ownBlock :: LO)) n w_40 y_30 _ R_43 _ y1_0 (Pr.br Q1_0) et_44) ?_)
      rintro _ w_48 ⟨v_45, rfl, R_46, hb_47⟩; refine ⟨_, rfl, ?_⟩
      replace R_46 := RepV.back R_46 W
      clear S; intro a S
      replace Q1_0 := Q1_0.step hb_47
      replace R_43 := R_43.step hb_47
      replace B_37 := B_37.step hb_47
      replace O_14 := O_14.step hb_47
      replace RD := RD.step hb_47
      replace W := W.step hb_47
      obtain rfl := RepV.bool R_46
      refine wl_pureK (l' := [(29, .bool (!t_44)), (7, pB b_36), (6, .int .i64 c_8), (5, .int .i64 c_10), (0, v0), (1, .func (.func 35) #[] #[.pointer (some q1_0)])]) S tys tys_ok 1 [29, 7, 6, 5, 0, 1] (by kernel_rfl) ?_
      clear S; intro a S
      refine wpList_nil ?_
      refine then_n ?_
      obtain ⟨j_49, ej_49, hl_27⟩ := bindS hl_27
      refine wp_cut_ (fun a_ w_ => St 42 a_ [(6, .int .i64 c_8), (5, .int .i64 j_49.1), (0, v0), (1, .func (.func 35) #[] #[.pointer (some q1_0)])] ∧ Wd w w_ (some b_36 :: v0.ownBlock :: LO) ∧ InR .i64 j_49.1 ∧ Pr (.sl (.int .u8)) w_ (Kx K w.heap.size (some b_36 :: v0.ownBlock :: LO)) q1_0 y1_0 ∧ Bx gt2 37 w_ (Kx K w.heap.size (some b_36 :: v0.ownBlock :: LO)) b_36 y_30 ∧ Ow gt2 37 w_ w.heap.size (Kx K w.heap.size (some b_36 :: v0.ownBlock :: LO)) v0 j_49.2 x0.cap ∧ Rnd wA [v0.ownBlock] w_ [some b_36, v0.ownBlock]) ?_ ?_
      ·refine wp_cond_split (S.eval (show ev _ _ = some (.bool (!t_44)) from rfl)) ?_ ?_
       ·intro hc
        rw [if_pos hc] at ej_49
        refine wp_seq ?_
        refine wp_region_lit ?_
        refine wl_pure (l' := [(31, .int .i64 c_10), (30, v0), (29, .bool (!t_44)), (7, pB b_36), (6, .int .i64 c_8), (5, .int .i64 c_10), (0, v0), (1, .func (.func 35) #[] #[.pointer (some q1_0)])]) S tys tys_ok 2 (by kernel_rfl) ?_
        clear S; intro a S
        refine w_go S rfl (op_load (t := gt2) (x := y_30) S rfl ty37 rfl rfl rfl B_37.at_ ?_)
        clear S; intro a v_53 R_54 S
        obtain ⟨y_55, ey_55, ej_49⟩ := bindS ej_49
        refine w_go S rfl (op_indexAddr_own S rfl ty25 rfl rfl rfl O_14 rfl ey_55 ?_)
        clear S; intro a g_56 H_58 R_57 S
        refine w_go S rfl (op_store_own (t' := gt2) S rfl rfl ty37 rfl rfl rfl O_14 H_58 1 rfl (idx_some ey_55).2.1 Ln.whole R_54 ?_)
        intro w_59 hw_60 hm_62 O_61
        replace Q1_0 := Q1_0.wrote hw_60 hm_62
        replace R_54 := R_54.wrote hw_60 hm_62
        replace B_37 := B_37.wrote hw_60 hm_62 (by have h_ := W.one (p := 1) (q := 0) (by decide) rfl rfl; exact fun e_ => h_ (by rw [e_]; exact H_58))
        replace RD := RD.wrote hw_60 (by rw [← H_58]; exact List.mem_of_getElem? (i := 1) rfl)
        replace W := W.wrote hw_60 hm_62
        replace O_61 : Ow gt2 37 w_59 w.heap.size (Kx K w.heap.size (some b_36 :: v0.ownBlock :: LO)) v0 (c_12.set c_10.toNat y_30) x0.cap := O_61
        refine wpList_nil ?_
        refine then_n ?_
        replace S := S.sub (l' := [(6, .int .i64 c_8), (5, .int .i64 c_10), (0, v0), (1, .func (.func 35) #[] #[.pointer (some q1_0)])]) (by exact ⟨rfl, rfl, rfl, rfl, trivial⟩)
        refine wp_region_lit ?_
        refine wl_pure (l' := [(34, .int .i64 c_10), (6, .int .i64 c_8), (5, .int .i64 c_10), (0, v0), (1, .func (.func 35) #[] #[.pointer (some q1_0)])]) S tys tys_ok 1 (by kernel_rfl) ?_
        clear S; intro a S
        obtain ⟨x_63, ex_63, ej_49⟩ := bindS ej_49
        refine w_go S rfl (op_arith S .i64 (c_10 + 1) rfl (.inl rfl) rfl rfl rfl rfl ex_63 ?_)
        clear S; intro a S
        refine wl_pure (l' := [(5, .int .i64 x_63), (35, .int .i64 x_63), (34, .int .i64 c_10), (6, .int .i64 c_8), (5, .int .i64 c_10), (0, v0), (1, .func (.func 35) #[] #[.pointer (some q1_0)])]) S tys tys_ok 1 (by kernel_rfl) ?_
        clear S; intro a S
        refine wpList_nil ?_
        refine then_n ?_
        obtain rfl := Option.some.inj ej_49
        exact ⟨S.sub (by exact ⟨rfl, rfl, rfl, rfl, trivial⟩), W, (ckI_some ex_63).2.1, Q1_0, B_37, O_61, RD⟩
       ·intro hc
        rw [if_neg (Bool.eq_false_iff.1 hc)] at ej_49
        refine wp_skip ?_
        refine then_n ?_
        obtain rfl := Option.some.inj ej_49
        exact ⟨S.sub (by exact ⟨rfl, rfl, rfl, rfl, trivial⟩), W, G_11, Q1_0, B_37, O_14, RD⟩
      clear S W; rintro a w_64 ⟨S, W, G_50, Q1_0, B_37, O_52, RD⟩
      refine blk_n ?_
      refine then_n ?_
      refine wp_region_lit ?_
      refine wl_pure (l' := [(20, .int .i64 c_8), (6, .int .i64 c_8), (5, .int .i64 j_49.1), (0, v0), (1, .func (.func 35) #[] #[.pointer (some q1_0)])]) S tys tys_ok 1 (by kernel_rfl) ?_
      clear S; intro a S
      obtain ⟨x_65, ex_65, hl_27⟩ := bindS hl_27
      refine w_go S rfl (op_arith S .i64 (c_8 + 1) rfl (.inl rfl) rfl rfl rfl rfl ex_65 ?_)
      clear S; intro a S
      refine wl_pure (l' := [(6, .int .i64 x_65), (21, .int .i64 x_65), (20, .int .i64 c_8), (6, .int .i64 c_8), (5, .int .i64 j_49.1), (0, v0), (1, .func (.func 35) #[] #[.pointer (some q1_0)])]) S tys tys_ok 1 (by kernel_rfl) ?_
      clear S; intro a S
      refine wpList_nil ?_
      refine then_n ?_
      exact ⟨x_65, j_49.1, j_49.2, ⟨S.sub (by exact ⟨rfl, rfl, rfl, rfl, trivial⟩), (W.drop 1), (ckI_some ex_65).2.1, G_50, (Q1_0.drop 1), (O_52.drop 1), (RD.drop 1), hl_27⟩⟩
     ·intro hc
      rw [if_neg (Bool.eq_false_iff.1 hc)] at hl_27
      refine wp_exit ?_
      refine then_x ?_
      refine then_x ?_
      refine blk_hit ?_
      refine then_n ?_
      obtain rfl := Option.some.inj hl_27
      exact ⟨S.sub (by exact ⟨rfl, rfl, trivial⟩), W, G_11, O_14, RD⟩
  clear S W; rintro a w_66 ⟨S, W, G_25, O_24, RD⟩
  refine then_n ?_
  refine wp_seq ?_
  refine wp_region_lit ?_
  refine wl_pure (l' := [(37, .int .i64 y_22.2), (36, v0), (0, v0), (5, .int .i64 y_22.2)]) S tys tys_ok 2 (by kernel_rfl) ?_
  clear S; intro a S
  obtain ⟨m_67, em_67, h⟩ := bindS h
  refine w_go S rfl (op_sub_own S (E := 37) rfl ty25 un25 rfl rfl rfl O_24 rfl em_67 ?_)
  clear S; intro a v_68 hs_69 S
  refine w_go S rfl (op_clear_sub (e := gt2) S (E := 37) (z0 := (⟨[], some 0⟩, false, false, false, 0)) _ rfl ty25 un25 by25 z37 (fun w K => ⟨[.slice .none 0 0], [.bool false, .bool false, .bool false, .int .i64 0], rfl, ⟨.none, 0, 0, rfl, rfl, Nat.le_refl _, by decide, fun k h => Option.some.inj h, .inl rfl⟩, ⟨[.bool false], [.bool false, .bool false, .int .i64 0], rfl, rfl, ⟨[.bool false], [.bool false, .int .i64 0], rfl, rfl, ⟨[.bool false], [.int .i64 0], rfl, rfl, ⟨rfl, by decide⟩⟩⟩⟩⟩) rfl rfl hs_69 O_24 0 rfl ?_)
  clear S; intro a w_70 A_71 O_72 S
  replace RD : Rnd wA [v0.ownBlock] w_70 [v0.ownBlock] := RD.apd A_71 (i := 0) rfl
  replace W : Wd w w_70 (v0.ownBlock :: LO) := W.apd A_71 (i := 0) rfl
  replace O_72 : Ow gt2 37 w_70 w.heap.size (Kx K w.heap.size (v0.ownBlock :: LO)) v0 (y_22.1.take m_67 ++ List.replicate (y_22.1.length - m_67) ((⟨[], some 0⟩, false, false, false, 0) : (Sl (Int)) × Bool × Bool × Bool × Int)) x0.cap := O_72
  refine wpList_nil ?_
  refine then_n ?_
  replace S := S.sub (l' := [(0, v0), (5, .int .i64 y_22.2)]) (by exact ⟨rfl, rfl, trivial⟩)
  refine wp_seq ?_
  refine wp_region_lit ?_
  refine wl_pure (l' := [(40, .int .i64 y_22.2), (39, v0), (0, v0), (5, .int .i64 y_22.2)]) S tys tys_ok 2 (by kernel_rfl) ?_
  clear S; intro a S
  obtain ⟨l_73, el_73, h⟩ := bindS h
  refine w_go S rfl (op_cut_own S (E := 37) rfl ty25 un25 rfl rfl rfl O_72 (.inr ⟨_, _, rfl, rfl⟩) el_73 ?_)
  clear S; intro a v_74 hob_75 O_76 S
  replace RD : Rnd wA [v0.ownBlock] w_70 [v_74.ownBlock] := by rw [hob_75]; exact RD
  replace W : Wd w w_70 (v_74.ownBlock :: LO) := by rw [hob_75]; exact W
  replace O_76 : Ow gt2 37 w_70 w.heap.size (Kx K w.heap.size (v_74.ownBlock :: LO)) v_74 l_73 x0.cap := by rw [hob_75]; exact O_76
  refine wl_pureK (l' := [(4, v_74)]) S tys tys_ok 1 [4] (by kernel_rfl) ?_
  clear S; intro a S
  refine wpList_nil ?_
  refine then_n ?_
  refine wp_ret ?_
  have R_77 : RepV (.sl gt2) w_70 (Kx K w.heap.size LO) v_74 (⟨l_73, x0.cap⟩ : Sl ((Sl (Int)) × Bool × Bool × Bool × Int)) := O_76.pubAt W 0 rfl
  replace RD : Rnd wA [v0.ownBlock] w_70 [] := RD.lessAt 0
  replace W : Wd w w_70 LO := W.lessAt 0
  obtain rfl := Option.some.inj h
  exact b_res1 S rfl (res_tmp S rfl) ⟨_, rfl, R_77, Rnd.yst RD (Wd.front (P := []) (LO := LO) W)⟩
def p16 (n : Nat) (x0 : Sl ((Sl (Int)) × Bool × Bool × Bool × Int)) (x1 : Sl (Int)) : Option ((Sl ((Sl (Int)) × Bool × Bool × Bool × Int)) × (Int)) :=
 (p19 n x0).bind fun t_5 =>
 if (t_5 != 0) then (some ((⟨([] : List ((Sl (Int)) × Bool × Bool × Bool × Int)), some 0⟩ : Sl ((Sl (Int)) × Bool × Bool × Bool × Int)), t_5)) else (p30 n x0 x1).bind fun t_13 => if (decide (t_13 < 0)) then (some ((⟨([] : List ((Sl (Int)) × Bool × Bool × Bool × Int)), some 0⟩ : Sl ((Sl (Int)) × Bool × Bool × Bool × Int)), 7)) else (p23 n x0).bind fun t_19 => (p34_35 n (⟨t_19.xs, t_19.cap⟩ : Sl ((Sl (Int)) × Bool × Bool × Bool × Int)) x1).bind fun t_25 => (p23 n t_25).bind fun t_30 => some ((⟨t_30.xs, t_30.cap⟩ : Sl ((Sl (Int)) × Bool × Bool × Bool × Int)), 0)
set_option maxHeartbeats 4000000 in
set_option maxRecDepth 100000 in
/-- plugboard/suspends.Take -/
theorem c16 (K : Nat → Prop) (n : Nat) (w : World) (x0 : Sl ((Sl (Int)) × Bool × Bool × Bool × Int)) (v0 : Value) (R0 : RepV (.sl gt2) w K v0 x0) (x1 : Sl (Int)) (v1 : Value) (R1 : RepV (.sl (.int .u8)) w K v1 x1) {r : (Sl ((Sl (Int)) × Bool × Bool × Bool × Int)) × (Int)} (h : p16 n x0 x1 = some r) :
  Calls Try.prog 16 #[v0, v1] w (fun e_ w_ => ∃ v0_ v1_ : Value, e_ = .returned (.tuple #[v0_, v1_]) ∧ Ow gt2 37 w_ w.heap.size (Kx K w.heap.size [v0_.ownBlock]) v0_ r.1.xs r.1.cap ∧ RepV (.int .i64) w_ (Kx K w.heap.size [v0_.ownBlock]) v1_ r.2 ∧ Below w.heap.size w w_) := by
 refine enter (args := [v0, v1]) Try.func16 rfl 21 rfl rfl fun a S => ?_
 have W := Wd.start w
 replace R0 := R0.arg
 replace R1 := R1.arg
 unfold p16 at h
 replace S : St 21 a [(0, v0), (1, v1)] := S
 refine wp_seq ?_
 refine wp_region_lit ?_
 refine w_go S rfl (op_box S rfl rfl rfl rfl rfl R1 ?_)
 clear S; intro a w_3 b_1 hb_4 B_2 S
 replace R0 := R0.box hb_4
 replace R1 := R1.box hb_4
 replace W := W.box hb_4
 refine wl_pureK (l' := [(3, pB b_1), (0, v0)]) S tys tys_ok 2 [3, 0] (by kernel_rfl) ?_
 clear S; intro a S
 refine wpList_nil ?_
 refine then_n ?_
 refine wp_seq ?_
 refine wp_seq ?_
 refine wp_region_lit ?_
 refine wl_pure (l' := [(7, v0), (3, pB b_1), (0, v0)]) S tys tys_ok 1 (by kernel_rfl) ?_
 clear S; intro a S
 obtain ⟨t_5, et_5, h⟩ := bindS h
 refine w_go S rfl (op_call (vs := [v0]) S rfl cb19 rfl rfl rfl (c19 (Kx K w.heap.size [some b_1]) n w_3 x0 _ R0 et_5) ?_)
 rintro _ w_9 ⟨v_6, rfl, R_7, hb_8⟩; refine ⟨_, rfl, ?_⟩
 replace R_7 := RepV.back R_7 W
 clear S; intro a S
 replace R0 := R0.step hb_8
 replace B_2 := B_2.step hb_8
 replace W := W.step hb_8
 obtain ⟨rfl, GR_7⟩ := RepV.int R_7
 refine wl_pure (l' := [(6, .int .i64 t_5), (8, .int .i64 t_5), (7, v0), (3, pB b_1), (0, v0)]) S tys tys_ok 1 (by kernel_rfl) ?_
 clear S; intro a S
 refine wpList_nil ?_
 refine then_n ?_
 replace S := S.sub (l' := [(6, .int .i64 t_5), (3, pB b_1), (0, v0)]) (by exact ⟨rfl, rfl, rfl, trivial⟩)
 refine wp_seq ?_
 refine wp_region_lit ?_
 refine wl_pure (l' := [(10, .bool (t_5 != 0)), (9, .int .i64 t_5), (6, .int .i64 t_5), (3, pB b_1), (0, v0)]) S tys tys_ok 2 (by kernel_rfl) ?_
 clear S; intro a S
 refine wpList_nil ?_
 refine then_n ?_
 replace S := S.sub (l' := [(10, .bool (t_5 != 0)), (6, .int .i64 t_5), (3, pB b_1), (0, v0)]) (by exact ⟨rfl, rfl, rfl, rfl, trivial⟩)
 refine wp_cond_split (S.eval (show ev _ _ = some (.bool (t_5 != 0)) from rfl)) ?_ ?_
 ·intro hc
  rw [if_pos hc] at h
  refine wp_seq ?_
  refine wp_region_lit ?_
  refine wl_pureK (l' := [(5, .int .i64 t_5), (4, .slice .none 0 0)]) S tys tys_ok 3 [5, 4] (by kernel_rfl) ?_
  clear S; intro a S
  refine wpList_nil ?_
  refine then_n ?_
  refine wp_ret ?_
  refine then_r ?_
  replace B_2 := B_2.more
  replace W := W.more
  have O_10 : Ow gt2 37 w_9 w.heap.size (Kx K w.heap.size [.none, some b_1]) (.slice .none 0 0) ([] : List ((Sl (Int)) × Bool × Bool × Bool × Int)) (some 0) := Ow.nil
  obtain rfl := Option.some.inj h
  exact b_ret2 S rfl rfl rfl ⟨_, _, rfl, (O_10.lessO 0 rfl), (RepV.mkInt GR_7), W.below⟩
 ·intro hc
  rw [if_neg (Bool.eq_false_iff.1 hc)] at h
  refine wp_skip ?_
  refine then_n ?_
  replace S := S.sub (l' := [(3, pB b_1), (0, v0)]) (by exact ⟨rfl, rfl, trivial⟩)
  refine wp_seq ?_
  refine wp_seq ?_
  refine wp_region_lit ?_
  refine wl_pure (l' := [(12, v0), (3, pB b_1), (0, v0)]) S tys tys_ok 1 (by kernel_rfl) ?_
  clear S; intro a S
  refine w_go S rfl (op_load (t := (.sl (.int .u8))) (x := x1) S rfl ty35 rfl rfl rfl B_2.at_ ?_)
  clear S; intro a v_11 R_12 S
  obtain ⟨t_13, et_13, h⟩ := bindS h
  refine w_go S rfl (op_call (vs := [v0, v_11]) S rfl cb30 rfl rfl rfl (c30 (Kx K w.heap.size [some b_1]) n w_9 x0 _ R0 x1 _ R_12 et_13) ?_)
  rintro _ w_17 ⟨v_14, rfl, R_15, hb_16⟩; refine ⟨_, rfl, ?_⟩
  replace R_15 := RepV.back R_15 W
  clear S; intro a S
  replace R0 := R0.step hb_16
  replace R_12 := R_12.step hb_16
  replace B_2 := B_2.step hb_16
  replace W := W.step hb_16
  obtain ⟨rfl, GR_15⟩ := RepV.int R_15
  refine wl_pureK (l' := [(15, .bool (decide (t_13 < 0))), (3, pB b_1), (0, v0)]) S tys tys_ok 1 [15, 3, 0] (by kernel_rfl) ?_
  clear S; intro a S
  refine wpList_nil ?_
  refine then_n ?_
  refine wp_cond_split (S.eval (show ev _ _ = some (.bool (decide (t_13 < 0))) from rfl)) ?_ ?_
  ·intro hc
   rw [if_pos hc] at h
   refine wp_seq ?_
   refine wp_region_lit ?_
   refine wl_pureK (l' := [(5, .int .i64 7), (4, .slice .none 0 0)]) S tys tys_ok 2 [5, 4] (by kernel_rfl) ?_
   clear S; intro a S
   refine wpList_nil ?_
   refine then_n ?_
   refine wp_ret ?_
   refine then_r ?_
   replace B_2 := B_2.more
   replace W := W.more
   have O_18 : Ow gt2 37 w_17 w.heap.size (Kx K w.heap.size [.none, some b_1]) (.slice .none 0 0) ([] : List ((Sl (Int)) × Bool × Bool × Bool × Int)) (some 0) := Ow.nil
   obtain rfl := Option.some.inj h
   exact b_ret2 S rfl rfl rfl ⟨_, _, rfl, (O_18.lessO 0 rfl), (RepV.mkInt (by decide)), W.below⟩
  ·intro hc
   rw [if_neg (Bool.eq_false_iff.1 hc)] at h
   refine wp_skip ?_
   refine then_n ?_
   replace S := S.sub (l' := [(3, pB b_1), (0, v0)]) (by exact ⟨rfl, rfl, trivial⟩)
   refine wp_seq ?_
   refine wp_region_lit ?_
   refine wl_pure (l' := [(16, v0), (3, pB b_1), (0, v0)]) S tys tys_ok 1 (by kernel_rfl) ?_
   clear S; intro a S
   obtain ⟨t_19, et_19, h⟩ := bindS h
   refine w_go S rfl (op_call (vs := [v0]) S rfl cb23 rfl rfl rfl (c23 (Kx K w.heap.size [some b_1]) n w_17 x0 _ R0 et_19) ?_)
   rintro _ w_23 ⟨v_20, rfl, R_21, hb_22⟩; refine ⟨_, rfl, ?_⟩
   have NO_ := newO_of R_21 (Nat.le_refl _) hb_22
   replace R_21 := Ow.backO R_21 W
   clear S; intro a S
   replace R0 := R0.newO NO_
   replace B_2 := B_2.newO NO_
   replace W := W.newO NO_
   clear NO_
   refine w_go S rfl (op_mkfn (vs := []) (us := [pB b_1]) S rfl rfl rfl rfl rfl ?_)
   clear S; intro a S
   have Q_24 : Pr (.sl (.int .u8)) w_23 (Kx K w.heap.size [v_20.ownBlock]) (⟨b_1, 0, .none⟩ : Addr) x1 := Bx.pr B_2 W rfl 1 rfl
   replace R0 : RepV (.sl gt2) w_23 (Kx K w.heap.size [v_20.ownBlock]) v0 x0 := R0.lessAt 1
   replace R_21 : Ow gt2 37 w_23 w.heap.size (Kx K w.heap.size [v_20.ownBlock]) v_20 t_19.xs t_19.cap := R_21.lessAt 1
   replace W : Wd w w_23 [v_20.ownBlock] := W.lessAt 1
   obtain ⟨t_25, et_25, h⟩ := bindS h
   refine w_go S rfl (op_call (vs := [v_20, .func (.func 35) #[] #[.pointer (some (⟨b_1, 0, .none⟩ : Addr))]]) S rfl cb34 rfl rfl rfl (c34_35 K n w w_23 [] (⟨t_19.xs, t_19.cap⟩ : Sl ((Sl (Int)) × Bool × Bool × Bool × Int)) _ R_21 _ x1 Q_24 W et_25) ?_)
   rintro _ w_26 ⟨v_28, rfl, R_29, Y_27⟩; refine ⟨_, rfl, ?_⟩
   clear S; intro a S
   replace Q_24 : Pr (.sl (.int .u8)) w_26 (Kx K w.heap.size []) (⟨b_1, 0, .none⟩ : Addr) x1 := Pr.yfr (P := [v_20.ownBlock]) [] Q_24 Y_27
   replace R0 : RepV (.sl gt2) w_26 (Kx K w.heap.size []) v0 x0 := RepV.yfr (P := [v_20.ownBlock]) [] R0 Y_27
   replace W : Wd w w_26 [] := Wd.yfr (P := [v_20.ownBlock]) [] W Y_27
   replace R_29 : RepV (.sl gt2) w_26 (Kx K w.heap.size []) v_28 t_25 := R_29
   obtain ⟨t_30, et_30, h⟩ := bindS h
   refine w_go S rfl (op_call (vs := [v_28]) S rfl cb23 rfl rfl rfl (c23 (Kx K w.heap.size []) n w_26 t_25 _ R_29 et_30) ?_)
   rintro _ w_34 ⟨v_31, rfl, R_32, hb_33⟩; refine ⟨_, rfl, ?_⟩
   have NO_ := newO_of R_32 (Nat.le_refl _) hb_33
   replace R_32 := Ow.backO R_32 W
   clear S; intro a S
   replace Q_24 := Q_24.newO NO_
   replace R0 := R0.newO NO_
   replace R_29 := R_29.newO NO_
   replace W := W.newO NO_
   clear NO_
   refine wl_pureK (l' := [(5, .int .i64 0), (4, v_31)]) S tys tys_ok 2 [5, 4] (by kernel_rfl) ?_
   clear S; intro a S
   refine wpList_nil ?_
   refine then_n ?_
   refine wp_ret ?_
   obtain rfl := Option.some.inj h
   exact b_ret2 S rfl rfl rfl ⟨_, _, rfl, (R_32.lessO 0 rfl), (RepV.mkInt (by decide)), W.below⟩
theorem cb16 : callB Try.prog 16 = true := by kernel_rfl
def p9 (n : Nat) (x0 : Sl ((Sl (Int)) × Bool × Bool × Bool × Int)) (x1 : Int × Int × Bool × Int) : Option ((Sl ((Sl (Int)) × Bool × Bool × Bool × Int)) × (Sl ((Sl (Int)) × Bool)) × (Int)) :=
 (p20 n x1.2.1).bind fun t_7 =>
 (remI .u8 x1.1 8).bind fun x_14 =>
 if (x_14 == 0) then ((p15 n x0 t_7 x1.2.2.1).bind fun t_17 => some (t_17.1, t_17.2.1, t_17.2.2)) else if (x_14 == 1) then ((p16 n x0 t_7).bind fun t_26 => some ((⟨t_26.1.xs, t_26.1.cap⟩ : Sl ((Sl (Int)) × Bool × Bool × Bool × Int)), (⟨[], some 0⟩ : Sl ((Sl (Int)) × Bool)), t_26.2)) else (if (x_14 == 2) then (some (x_14 == 2)) else some (x_14 == 3)).bind fun (j_34 : (Bool)) => if j_34 then ((p17 n x0 t_7 x1.2.2.1).bind fun t_38 => some ((⟨t_38.1.xs, t_38.1.cap⟩ : Sl ((Sl (Int)) × Bool × Bool × Bool × Int)), t_38.2.1, t_38.2.2)) else if (x_14 == 4) then ((p18 n x0 t_7).bind fun t_48 => some ((⟨t_48.1.xs, t_48.1.cap⟩ : Sl ((Sl (Int)) × Bool × Bool × Bool × Int)), t_48.2.1, t_48.2.2)) else (remI .u8 x1.2.2.2 5).bind fun x_60 => (p12 n x0 x_60).bind fun t_61 => some ((⟨t_61.1.xs, t_61.1.cap⟩ : Sl ((Sl (Int)) × Bool × Bool × Bool × Int)), t_61.2.1, t_61.2.2)
set_option maxHeartbeats 4000000 in
set_option maxRecDepth 100000 in
/-- plugboard/plugboardlaw32.call -/
theorem c9 (K : Nat → Prop) (n : Nat) (w : World) (x0 : Sl ((Sl (Int)) × Bool × Bool × Bool × Int)) (v0 : Value) (R0 : RepV (.sl gt2) w K v0 x0) (x1 : Int × Int × Bool × Int) (v1 : Value) (R1 : RepV gt1 w K v1 x1) {r : (Sl ((Sl (Int)) × Bool × Bool × Bool × Int)) × (Sl ((Sl (Int)) × Bool)) × (Int)} (h : p9 n x0 x1 = some r) :
  Calls Try.prog 9 #[v0, v1] w (Ret3 (.sl gt2) (.sl gt0) (.int .i64) w (Kx K w.heap.size []) r) := by
 refine enter (args := [v0, v1]) Try.func9 rfl 64 rfl rfl fun a S => ?_
 have W := Wd.start w
 replace R0 := R0.arg
 replace R1 := R1.arg
 unfold p9 at h
 replace S : St 64 a [(0, v0), (1, v1)] := S
 refine wp_seq ?_
 refine wp_region_lit ?_
 refine w_go S rfl (op_box S rfl rfl rfl rfl rfl R1 ?_)
 clear S; intro a w_3 b_1 hb_4 B_2 S
 replace R0 := R0.box hb_4
 replace R1 := R1.box hb_4
 replace W := W.box hb_4
 refine wl_pureK (l' := [(3, pB b_1), (0, v0)]) S tys tys_ok 3 [3, 0] (by kernel_rfl) ?_
 clear S; intro a S
 refine wpList_nil ?_
 refine then_n ?_
 refine wp_seq ?_
 refine wp_region_lit ?_
 refine wl_pure (l' := [(10, .pointer (some ((⟨b_1, 0, .none⟩ : Addr).add (coff gf1 1)))), (3, pB b_1), (0, v0)]) S tys tys_ok 1 (by kernel_rfl) ?_
 clear S; intro a S
 refine w_go S rfl (op_load (t := (.int .u8)) (x := x1.2.1) S rfl ty5 rfl rfl rfl (RepAt.add 1 (RepAt.st (t := gf1) B_2.at_)) ?_)
 clear S; intro a v_5 R_6 S
 obtain ⟨rfl, GR_6⟩ := RepV.int R_6
 obtain ⟨t_7, et_7, h⟩ := bindS h
 refine w_go S rfl (op_call (vs := [.int .u8 x1.2.1]) S rfl cb20 rfl rfl rfl (c20 (Kx K w.heap.size [some b_1]) n w_3 x1.2.1 GR_6 et_7) ?_)
 rintro _ w_11 ⟨v_8, rfl, R_9, hb_10⟩; refine ⟨_, rfl, ?_⟩
 replace R_9 := RepV.back R_9 W
 clear S; intro a S
 replace R0 := R0.step hb_10
 replace B_2 := B_2.step hb_10
 replace W := W.step hb_10
 refine wl_pureK (l' := [(7, v_8), (3, pB b_1), (0, v0)]) S tys tys_ok 1 [7, 3, 0] (by kernel_rfl) ?_
 clear S; intro a S
 refine wpList_nil ?_
 refine then_n ?_
 refine wp_seq ?_
 refine wp_seq ?_
 refine wp_region_lit ?_
 refine wl_pure (l' := [(13, .pointer (some ((⟨b_1, 0, .none⟩ : Addr).add (coff gf1 0)))), (7, v_8), (3, pB b_1), (0, v0)]) S tys tys_ok 1 (by kernel_rfl) ?_
 clear S; intro a S
 refine w_go S rfl (op_load (t := (.int .u8)) (x := x1.1) S rfl ty5 rfl rfl rfl (RepAt.add 0 (RepAt.st (t := gf1) B_2.at_)) ?_)
 clear S; intro a v_12 R_13 S
 obtain ⟨rfl, GR_13⟩ := RepV.int R_13
 obtain ⟨x_14, ex_14, h⟩ := bindS h
 refine w_go S rfl (op_rem S .u8 rfl rfl rfl rfl rfl ex_14 ?_)
 clear S; intro a S
 refine wpList_nil ?_
 refine then_n ?_
 replace S := S.sub (l' := [(15, .int .u8 x_14), (7, v_8), (3, pB b_1), (0, v0)]) (by exact ⟨rfl, rfl, rfl, rfl, trivial⟩)
 refine wp_block ?_
 refine wp_seq ?_
 refine wp_region_lit ?_
 refine wl_pure (l' := [(16, .bool (x_14 == 0)), (17, .bool (x_14 == 0)), (15, .int .u8 x_14), (7, v_8), (3, pB b_1), (0, v0)]) S tys tys_ok 2 (by kernel_rfl) ?_
 clear S; intro a S
 refine wpList_nil ?_
 refine then_n ?_
 replace S := S.sub (l' := [(16, .bool (x_14 == 0)), (15, .int .u8 x_14), (7, v_8), (3, pB b_1), (0, v0)]) (by exact ⟨rfl, rfl, rfl, rfl, rfl, trivial⟩)
 refine wp_cond_split (S.eval (show ev _ _ = some (.bool (x_14 == 0)) from rfl)) ?_ ?_
 ·intro hc
  rw [if_pos hc] at h
  refine wp_seq ?_
  refine wp_region_lit ?_
  refine wl_pureK (l' := [(20, .pointer (some ((⟨b_1, 0, .none⟩ : Addr).add (coff gf1 2)))), (19, v_8), (18, v0)]) S tys tys_ok 3 [20, 19, 18] (by kernel_rfl) ?_
  clear S; intro a S
  refine w_go S rfl (op_load (t := .bool) (x := x1.2.2.1) S rfl ty4 rfl rfl rfl (RepAt.add 2 (RepAt.st (t := gf1) B_2.at_)) ?_)
  clear S; intro a v_15 R_16 S
  obtain rfl := RepV.bool R_16
  obtain ⟨t_17, et_17, h⟩ := bindS h
  refine w_go S rfl (op_call (vs := [v0, v_8, .bool x1.2.2.1]) S rfl cb15 rfl rfl rfl (c15 (Kx K w.heap.size [some b_1]) n w_11 x0 _ R0 t_7 _ R_9 x1.2.2.1 et_17) ?_)
  rintro _ w_25 ⟨v_18, v_19, v_20, rfl, R_21, R_22, R_23, hb_24⟩; refine ⟨_, rfl, ?_⟩
  replace R_21 := RepV.back R_21 W
  replace R_22 := RepV.back R_22 W
  replace R_23 := RepV.back R_23 W
  clear S; intro a S
  replace R0 := R0.step hb_24
  replace R_9 := R_9.step hb_24
  replace B_2 := B_2.step hb_24
  replace W := W.step hb_24
  obtain ⟨rfl, GR_23⟩ := RepV.int R_23
  refine wl_pureK (l' := [(6, .int .i64 t_17.2.2), (5, v_19), (4, v_18)]) S tys tys_ok 6 [6, 5, 4] (by kernel_rfl) ?_
  clear S; intro a S
  refine wpList_nil ?_
  refine then_n ?_
  refine wp_ret ?_
  refine blk_r ?_
  refine then_r ?_
  obtain rfl := Option.some.inj h
  exact b_ret3 S rfl rfl rfl rfl ⟨_, _, _, rfl, R_21.out, R_22.out, (RepV.mkInt GR_23), W.below⟩
 ·intro hc
  rw [if_neg (Bool.eq_false_iff.1 hc)] at h
  refine wp_seq ?_
  refine wp_region_lit ?_
  refine wl_pure (l' := [(26, .bool (x_14 == 1)), (27, .bool (x_14 == 1)), (16, .bool (x_14 == 0)), (15, .int .u8 x_14), (7, v_8), (3, pB b_1), (0, v0)]) S tys tys_ok 2 (by kernel_rfl) ?_
  clear S; intro a S
  refine wpList_nil ?_
  refine then_n ?_
  replace S := S.sub (l' := [(26, .bool (x_14 == 1)), (15, .int .u8 x_14), (7, v_8), (3, pB b_1), (0, v0)]) (by exact ⟨rfl, rfl, rfl, rfl, rfl, trivial⟩)
  refine wp_cond_split (S.eval (show ev _ _ = some (.bool (x_14 == 1)) from rfl)) ?_ ?_
  ·intro hc
   rw [if_pos hc] at h
   refine wp_seq ?_
   refine wp_region_lit ?_
   refine wl_pureK (l' := [(30, v_8), (29, v0)]) S tys tys_ok 2 [30, 29] (by kernel_rfl) ?_
   clear S; intro a S
   obtain ⟨t_26, et_26, h⟩ := bindS h
   refine w_go S rfl (op_call (vs := [v0, v_8]) S rfl cb16 rfl rfl rfl (c16 (Kx K w.heap.size [some b_1]) n w_11 x0 _ R0 t_7 _ R_9 et_26) ?_)
   rintro _ w_32 ⟨v_27, v_28, rfl, R_29, R_30, hb_31⟩; refine ⟨_, rfl, ?_⟩
   have NO_ := newO_of R_29 (Nat.le_refl _) hb_31
   replace R_29 := Ow.backO R_29 W
   replace R_30 := RepV.backO R_30 W
   clear S; intro a S
   replace R0 := R0.newO NO_
   replace R_9 := R_9.newO NO_
   replace B_2 := B_2.newO NO_
   replace W := W.newO NO_
   clear NO_
   obtain ⟨rfl, GR_30⟩ := RepV.int R_30
   refine wl_pureK (l' := [(9, .int .i64 t_26.2), (8, v_27)]) S tys tys_ok 5 [9, 8] (by kernel_rfl) ?_
   clear S; intro a S
   refine wpList_nil ?_
   refine then_n ?_
   refine wp_seq ?_
   refine wp_region_lit ?_
   refine wl_pureK (l' := [(6, .int .i64 t_26.2), (5, .slice .none 0 0), (4, v_27)]) S tys tys_ok 5 [6, 5, 4] (by kernel_rfl) ?_
   clear S; intro a S
   refine wpList_nil ?_
   refine then_n ?_
   refine wp_ret ?_
   refine blk_r ?_
   refine then_r ?_
   have R_33 : RepV (.sl gt2) w_32 (Kx K w.heap.size [some b_1]) v_27 (⟨t_26.1.xs, t_26.1.cap⟩ : Sl ((Sl (Int)) × Bool × Bool × Bool × Int)) := R_29.pubAt W 0 rfl
   replace B_2 : Bx gt1 31 w_32 (Kx K w.heap.size [some b_1]) b_1 x1 := B_2.lessAt 0
   replace W : Wd w w_32 [some b_1] := W.lessAt 0
   obtain rfl := Option.some.inj h
   exact b_ret3 S rfl rfl rfl rfl ⟨_, _, _, rfl, R_33.out, RepV.nil, (RepV.mkInt GR_30), W.below⟩
  ·intro hc
   rw [if_neg (Bool.eq_false_iff.1 hc)] at h
   refine wp_seq ?_
   refine wp_seq ?_
   refine wp_region_lit ?_
   refine wl_pure (l' := [(36, .bool (x_14 == 2)), (37, .bool (x_14 == 2)), (26, .bool (x_14 == 1)), (15, .int .u8 x_14), (7, v_8), (3, pB b_1), (0, v0)]) S tys tys_ok 2 (by kernel_rfl) ?_
   clear S; intro a S
   refine wpList_nil ?_
   refine then_n ?_
   replace S := S.sub (l' := [(36, .bool (x_14 == 2)), (15, .int .u8 x_14), (7, v_8), (3, pB b_1), (0, v0)]) (by exact ⟨rfl, rfl, rfl, rfl, rfl, trivial⟩)
   obtain ⟨j_34, ej_34, h⟩ := bindS h
   refine wp_cut_ (fun a_ w_ => St 64 a_ [(36, .bool j_34), (15, .int .u8 x_14), (7, v_8), (3, pB b_1), (0, v0)] ∧ Wd w w_ [some b_1] ∧ RepV (.sl (.int .u8)) w_ (Kx K w.heap.size [some b_1]) v_8 t_7 ∧ RepV (.sl gt2) w_ (Kx K w.heap.size [some b_1]) v0 x0 ∧ Bx gt1 31 w_ (Kx K w.heap.size [some b_1]) b_1 x1) ?_ ?_
   ·refine wp_cond_split (S.eval (show ev _ _ = some (.bool (x_14 == 2)) from rfl)) ?_ ?_
    ·intro hc
     rw [if_pos hc] at ej_34
     refine wp_skip ?_
     refine then_n ?_
     obtain rfl := Option.some.inj ej_34
     exact ⟨S.sub (by exact ⟨rfl, rfl, rfl, rfl, rfl, trivial⟩), W, R_9, R0, B_2⟩
    ·intro hc
     rw [if_neg (Bool.eq_false_iff.1 hc)] at ej_34
     refine wp_region_lit ?_
     refine wl_pure (l' := [(36, .bool (x_14 == 3)), (38, .bool (x_14 == 3)), (36, .bool (x_14 == 2)), (15, .int .u8 x_14), (7, v_8), (3, pB b_1), (0, v0)]) S tys tys_ok 2 (by kernel_rfl) ?_
     clear S; intro a S
     refine wpList_nil ?_
     refine then_n ?_
     obtain rfl := Option.some.inj ej_34
     exact ⟨S.sub (by exact ⟨rfl, rfl, rfl, rfl, rfl, trivial⟩), W, R_9, R0, B_2⟩
   clear S W; rintro a w_35 ⟨S, W, R_9, R0, B_2⟩
   refine then_n ?_
   refine wp_cond_split (S.eval (show ev _ _ = some (.bool j_34) from rfl)) ?_ ?_
   ·intro hc
    rw [if_pos hc] at h
    refine wp_seq ?_
    refine wp_region_lit ?_
    refine wl_pureK (l' := [(41, .pointer (some ((⟨b_1, 0, .none⟩ : Addr).add (coff gf1 2)))), (40, v_8), (39, v0)]) S tys tys_ok 3 [41, 40, 39] (by kernel_rfl) ?_
    clear S; intro a S
    refine w_go S rfl (op_load (t := .bool) (x := x1.2.2.1) S rfl ty4 rfl rfl rfl (RepAt.add 2 (RepAt.st (t := gf1) B_2.at_)) ?_)
    clear S; intro a v_36 R_37 S
    obtain rfl := RepV.bool R_37
    obtain ⟨t_38, et_38, h⟩ := bindS h
    refine w_go S rfl (op_call (vs := [v0, v_8, .bool x1.2.2.1]) S rfl cb17 rfl rfl rfl (c17 (Kx K w.heap.size [some b_1]) n w_35 x0 _ R0 t_7 _ R_9 x1.2.2.1 et_38) ?_)
    rintro _ w_46 ⟨v_39, v_40, v_41, rfl, R_42, R_43, R_44, hb_45⟩; refine ⟨_, rfl, ?_⟩
    have NO_ := newO_of R_42 (Nat.le_refl _) hb_45
    replace R_42 := Ow.backO R_42 W
    replace R_43 := RepV.backO R_43 W
    replace R_44 := RepV.backO R_44 W
    clear S; intro a S
    replace R0 := R0.newO NO_
    replace R_9 := R_9.newO NO_
    replace B_2 := B_2.newO NO_
    replace W := W.newO NO_
    clear NO_
    obtain ⟨rfl, GR_44⟩ := RepV.int R_44
    refine wl_pureK (l' := [(6, .int .i64 t_38.2.2), (5, v_40), (4, v_39)]) S tys tys_ok 6 [6, 5, 4] (by kernel_rfl) ?_
    clear S; intro a S
    refine wpList_nil ?_
    refine then_n ?_
    refine wp_ret ?_
    refine blk_r ?_
    refine then_r ?_
    have R_47 : RepV (.sl gt2) w_46 (Kx K w.heap.size [some b_1]) v_39 (⟨t_38.1.xs, t_38.1.cap⟩ : Sl ((Sl (Int)) × Bool × Bool × Bool × Int)) := R_42.pubAt W 0 rfl
    replace R_43 : RepV (.sl gt0) w_46 (Kx K w.heap.size [some b_1]) v_40 t_38.2.1 := R_43.lessAt 0
    replace B_2 : Bx gt1 31 w_46 (Kx K w.heap.size [some b_1]) b_1 x1 := B_2.lessAt 0
    replace W : Wd w w_46 [some b_1] := W.lessAt 0
    obtain rfl := Option.some.inj h
    exact b_ret3 S rfl rfl rfl rfl ⟨_, _, _, rfl, R_47.out, R_43.out, (RepV.mkInt GR_44), W.below⟩
   ·intro hc
    rw [if_neg (Bool.eq_false_iff.1 hc)] at h
    refine wp_seq ?_
    refine wp_region_lit ?_
    refine wl_pureK (l' := [(47, .bool (x_14 == 4)), (7, v_8), (3, pB b_1), (0, v0)]) S tys tys_ok 2 [47, 7, 3, 0] (by kernel_rfl) ?_
    clear S; intro a S
    refine wpList_nil ?_
    refine then_n ?_
    refine wp_cond_split (S.eval (show ev _ _ = some (.bool (x_14 == 4)) from rfl)) ?_ ?_
    ·intro hc
     rw [if_pos hc] at h
     refine wp_seq ?_
     refine wp_region_lit ?_
     refine wl_pureK (l' := [(50, v_8), (49, v0)]) S tys tys_ok 2 [50, 49] (by kernel_rfl) ?_
     clear S; intro a S
     obtain ⟨t_48, et_48, h⟩ := bindS h
     refine w_go S rfl (op_call (vs := [v0, v_8]) S rfl cb18 rfl rfl rfl (c18 (Kx K w.heap.size [some b_1]) n w_35 x0 _ R0 t_7 _ R_9 et_48) ?_)
     rintro _ w_56 ⟨v_49, v_50, v_51, rfl, R_52, R_53, R_54, hb_55⟩; refine ⟨_, rfl, ?_⟩
     have NO_ := newO_of R_52 (Nat.le_refl _) hb_55
     replace R_52 := Ow.backO R_52 W
     replace R_53 := RepV.backO R_53 W
     replace R_54 := RepV.backO R_54 W
     clear S; intro a S
     replace R0 := R0.newO NO_
     replace R_9 := R_9.newO NO_
     replace B_2 := B_2.newO NO_
     replace W := W.newO NO_
     clear NO_
     obtain ⟨rfl, GR_54⟩ := RepV.int R_54
     refine wl_pureK (l' := [(6, .int .i64 t_48.2.2), (5, v_50), (4, v_49)]) S tys tys_ok 6 [6, 5, 4] (by kernel_rfl) ?_
     clear S; intro a S
     refine wpList_nil ?_
     refine then_n ?_
     refine wp_ret ?_
     refine blk_r ?_
     refine then_r ?_
     have R_57 : RepV (.sl gt2) w_56 (Kx K w.heap.size [some b_1]) v_49 (⟨t_48.1.xs, t_48.1.cap⟩ : Sl ((Sl (Int)) × Bool × Bool × Bool × Int)) := R_52.pubAt W 0 rfl
     replace R_53 : RepV (.sl gt0) w_56 (Kx K w.heap.size [some b_1]) v_50 t_48.2.1 := R_53.lessAt 0
     replace B_2 : Bx gt1 31 w_56 (Kx K w.heap.size [some b_1]) b_1 x1 := B_2.lessAt 0
     replace W : Wd w w_56 [some b_1] := W.lessAt 0
     obtain rfl := Option.some.inj h
     exact b_ret3 S rfl rfl rfl rfl ⟨_, _, _, rfl, R_57.out, R_53.out, (RepV.mkInt GR_54), W.below⟩
    ·intro hc
     rw [if_neg (Bool.eq_false_iff.1 hc)] at h
     refine wp_skip ?_
     refine blk_n ?_
     refine then_n ?_
     replace S := S.sub (l' := [(3, pB b_1), (0, v0)]) (by exact ⟨rfl, rfl, trivial⟩)
     refine wp_seq ?_
     refine wp_region_lit ?_
     refine wl_pure (l' := [(56, .pointer (some ((⟨b_1, 0, .none⟩ : Addr).add (coff gf1 3)))), (55, v0), (3, pB b_1), (0, v0)]) S tys tys_ok 2 (by kernel_rfl) ?_
     clear S; intro a S
     refine w_go S rfl (op_load (t := (.int .u8)) (x := x1.2.2.2) S rfl ty5 rfl rfl rfl (RepAt.add 3 (RepAt.st (t := gf1) B_2.at_)) ?_)
     clear S; intro a v_58 R_59 S
     obtain ⟨rfl, GR_59⟩ := RepV.int R_59
     obtain ⟨x_60, ex_60, h⟩ := bindS h
     refine w_go S rfl (op_rem S .u8 rfl rfl rfl rfl rfl ex_60 ?_)
     clear S; intro a S
     refine w_go S rfl (op_conv S .i64 .bool .bool rfl ty5 ty3 rfl rfl rfl (widen (inR_rem ex_60) (by decide)).1 ?_)
     clear S; intro a S
     obtain ⟨t_61, et_61, h⟩ := bindS h
     refine w_go S rfl (op_call (vs := [v0, .int .i64 x_60]) S rfl cb12 rfl rfl rfl (c12 (Kx K w.heap.size [some b_1]) n w_35 x0 _ R0 x_60 (widen (inR_rem ex_60) (by decide)).2 et_61) ?_)
     rintro _ w_69 ⟨v_62, v_63, v_64, rfl, R_65, R_66, R_67, hb_68⟩; refine ⟨_, rfl, ?_⟩
     have NO_ := newO_of R_65 (Nat.le_refl _) hb_68
     replace R_65 := Ow.backO R_65 W
     replace R_66 := RepV.backO R_66 W
     replace R_67 := RepV.backO R_67 W
     clear S; intro a S
     replace R0 := R0.newO NO_
     replace B_2 := B_2.newO NO_
     replace W := W.newO NO_
     clear NO_
     obtain ⟨rfl, GR_67⟩ := RepV.int R_67
     refine wl_pureK (l' := [(6, .int .i64 t_61.2.2), (5, v_63), (4, v_62)]) S tys tys_ok 6 [6, 5, 4] (by kernel_rfl) ?_
     clear S; intro a S
     refine wpList_nil ?_
     refine then_n ?_
     refine wp_ret ?_
     have R_70 : RepV (.sl gt2) w_69 (Kx K w.heap.size [some b_1]) v_62 (⟨t_61.1.xs, t_61.1.cap⟩ : Sl ((Sl (Int)) × Bool × Bool × Bool × Int)) := R_65.pubAt W 0 rfl
     replace R_66 : RepV (.sl gt0) w_69 (Kx K w.heap.size [some b_1]) v_63 t_61.2.1 := R_66.lessAt 0
     replace B_2 : Bx gt1 31 w_69 (Kx K w.heap.size [some b_1]) b_1 x1 := B_2.lessAt 0
     replace W : Wd w w_69 [some b_1] := W.lessAt 0
     obtain rfl := Option.some.inj h
     exact b_ret3 S rfl rfl rfl rfl ⟨_, _, _, rfl, R_70.out, R_66.out, (RepV.mkInt GR_67), W.below⟩
theorem cb9 : callB Try.prog 9 = true := by kernel_rfl
def p10_l1 (n : Nat) (x0 : Sl ((Sl (Int)) × Bool × Bool × Bool × Int)) (x1 : Sl (Int)) : Nat → (Int) → Option ((Unit) ⊕ ((Int)))
 | 0, _ => .none
 | m + 1, c_1 => if (decide (c_1 < (lenI x0))) then ((idx x0.xs c_1).bind fun y_11 => (p22 n y_11.1 x1).bind fun t_17 => if t_17 then (some (.inr c_1)) else (ckI .i64 (c_1 + 1)).bind fun x_22 => p10_l1 n x0 x1 m x_22) else some (.inl ())
def p10 (n : Nat) (x0 : Sl ((Sl (Int)) × Bool × Bool × Bool × Int)) (x1 : Sl (Int)) : Option ((Int)) :=
 (p10_l1 n x0 x1 n 0).bind fun (y_5 : (Unit) ⊕ ((Int))) =>
 lrK y_5 some fun (s_6 : Unit) =>
 some (-1)
set_option maxHeartbeats 4000000 in
set_option maxRecDepth 100000 in
/-- plugboard/plugboardlaw32.find -/
theorem c10 (K : Nat → Prop) (n : Nat) (w : World) (x0 : Sl ((Sl (Int)) × Bool × Bool × Bool × Int)) (v0 : Value) (R0 : RepV (.sl gt2) w K v0 x0) (x1 : Sl (Int)) (v1 : Value) (R1 : RepV (.sl (.int .u8)) w K v1 x1) {r : (Int)} (h : p10 n x0 x1 = some r) :
  Calls Try.prog 10 #[v0, v1] w (Ret1 (.int .i64) w (Kx K w.heap.size []) r) := by
 refine enter (args := [v0, v1]) Try.func10 rfl 20 rfl rfl fun a S => ?_
 have W := Wd.start w
 replace R0 := R0.arg
 replace R1 := R1.arg
 unfold p10 at h
 replace S : St 20 a [(0, v0), (1, v1)] := S
 refine wp_seq ?_
 refine wp_region_lit ?_
 refine wl_pure (l' := [(4, .int .i64 0), (0, v0), (1, v1)]) S tys tys_ok 1 (by kernel_rfl) ?_
 clear S; intro a S
 refine wpList_nil ?_
 refine then_n ?_
 replace S := S.sub (l' := [(0, v0), (1, v1)]) (by exact ⟨rfl, rfl, trivial⟩)
 refine wp_seq ?_
 refine wp_seq ?_
 refine wp_region_lit ?_
 refine wl_pure (l' := [(5, .int .i64 0), (0, v0), (1, v1)]) S tys tys_ok 1 (by kernel_rfl) ?_
 clear S; intro a S
 refine wpList_nil ?_
 refine then_n ?_
 obtain ⟨y_5, ey_5, h⟩ := bindS h
 refine wp_cut_ (fun a_ w_ => ∃ s_6 : Unit, y_5 = .inl s_6 ∧ (St 20 a_ [] ∧ Wd w w_ [])) ?_ ?_
 ·refine wp_block ?_
  refine wp_loop_n (fun m_ a_ w_ => ∃ (c_1 : Int) , St 20 a_ [(5, .int .i64 c_1), (0, v0), (1, v1)] ∧ Wd w w_ [] ∧ InR .i64 c_1 ∧ RepV (.sl gt2) w_ (Kx K w.heap.size []) v0 x0 ∧ RepV (.sl (.int .u8)) w_ (Kx K w.heap.size []) v1 x1 ∧ p10_l1 n x0 x1 m_ c_1 = some y_5) n ?_ ?_
  ·skip
   exact ⟨0, ⟨S.sub (by exact ⟨rfl, rfl, rfl, trivial⟩), W, (by decide), R0, R1, ey_5⟩⟩
  ·clear S W; rintro m_7 a w_9 ⟨c_1, S, W, G_2, R0, R1, hl_8⟩
   cases m_7 with
   | zero => exact absurd hl_8 (by simp [p10_l1])
   | succ m_7 =>
    refine ⟨m_7, rfl, ?_⟩
    rw [p10_l1] at hl_8
    refine wp_seq ?_
    refine wp_seq ?_
    refine wp_region_lit ?_
    refine wl_pure (l' := [(7, v0), (6, .int .i64 c_1), (5, .int .i64 c_1), (0, v0), (1, v1)]) S tys tys_ok 2 (by kernel_rfl) ?_
    clear S; intro a S
    refine w_go S rfl (op_len (K := _) S rfl ty25 rfl rfl rfl R0 ?_)
    clear S; intro a G_10 S
    refine wl_pureK (l' := [(9, .bool (decide (c_1 < (lenI x0)))), (5, .int .i64 c_1), (0, v0), (1, v1)]) S tys tys_ok 1 [9, 5, 0, 1] (by kernel_rfl) ?_
    clear S; intro a S
    refine wpList_nil ?_
    refine then_n ?_
    refine wp_cond_split (S.eval (show ev _ _ = some (.bool (decide (c_1 < (lenI x0)))) from rfl)) ?_ ?_
    ·intro hc
     rw [if_pos hc] at hl_8
     refine wp_skip ?_
     refine then_n ?_
     replace S := S.sub (l' := [(5, .int .i64 c_1), (0, v0), (1, v1)]) (by exact ⟨rfl, rfl, rfl, trivial⟩)
     refine wp_seq ?_
     refine wp_block ?_
     refine wp_seq ?_
     refine wp_region_lit ?_
     refine wl_pure (l' := [(13, .int .i64 c_1), (12, v0), (5, .int .i64 c_1), (0, v0), (1, v1)]) S tys tys_ok 2 (by kernel_rfl) ?_
     clear S; intro a S
     obtain ⟨y_11, ey_11, hl_8⟩ := bindS hl_8
     refine w_go S rfl (op_indexAddr S rfl ty25 rfl rfl rfl R0 rfl ey_11 ?_)
     clear S; intro a p_12 R_13 H_14 S
     refine wl_pureK (l' := [(15, .pointer (some (p_12.add (coff gf2 0)))), (5, .int .i64 c_1), (0, v0), (1, v1)]) S tys tys_ok 1 [15, 5, 0, 1] (by kernel_rfl) ?_
     clear S; intro a S
     refine w_go S rfl (op_load (t := (.sl (.int .u8))) (x := y_11.1) S rfl ty35 rfl rfl rfl (RepAt.add 0 (RepAt.st (t := gf2) R_13)) ?_)
     clear S; intro a v_15 R_16 S
     refine wl_pure (l' := [(17, v1), (16, v_15), (15, .pointer (some (p_12.add (coff gf2 0)))), (5, .int .i64 c_1), (0, v0), (1, v1)]) S tys tys_ok 1 (by kernel_rfl) ?_
     clear S; intro a S
     obtain ⟨t_17, et_17, hl_8⟩ := bindS hl_8
     refine w_go S rfl (op_call (vs := [v_15, v1]) S rfl cb22 rfl rfl rfl (c22 (Kx K w.heap.size []) n w_9 y_11.1 _ R_16 x1 _ R1 et_17) ?_)
     rintro _ w_21 ⟨v_18, rfl, R_19, hb_20⟩; refine ⟨_, rfl, ?_⟩
     replace R_19 := RepV.back R_19 W
     clear S; intro a S
     replace R0 := R0.step hb_20
     replace R1 := R1.step hb_20
     replace R_16 := R_16.step hb_20
     replace W := W.step hb_20
     obtain rfl := RepV.bool R_19
     refine wpList_nil ?_
     refine then_n ?_
     replace S := S.sub (l' := [(18, .bool t_17), (5, .int .i64 c_1), (0, v0), (1, v1)]) (by exact ⟨rfl, rfl, rfl, rfl, trivial⟩)
     refine wp_cond_split (S.eval (show ev _ _ = some (.bool t_17) from rfl)) ?_ ?_
     ·intro hc
      rw [if_pos hc] at hl_8
      refine wp_seq ?_
      refine wp_region_lit ?_
      refine wl_pureK (l' := [(4, .int .i64 c_1)]) S tys tys_ok 2 [4] (by kernel_rfl) ?_
      clear S; intro a S
      refine wpList_nil ?_
      refine then_n ?_
      refine wp_ret ?_
      refine blk_r ?_
      refine then_r ?_
      refine then_r ?_
      refine blk_r ?_
      refine then_r ?_
      refine then_r ?_
      obtain rfl := Option.some.inj hl_8
      obtain rfl := lr_inr h
      exact b_ret1 S rfl rfl ⟨_, rfl, (RepV.mkInt G_2), W.below⟩
     ·intro hc
      rw [if_neg (Bool.eq_false_iff.1 hc)] at hl_8
      refine wp_skip ?_
      refine blk_n ?_
      refine then_n ?_
      replace S := S.sub (l' := [(5, .int .i64 c_1), (0, v0), (1, v1)]) (by exact ⟨rfl, rfl, rfl, trivial⟩)
      refine wp_region_lit ?_
      refine wl_pure (l' := [(10, .int .i64 c_1), (5, .int .i64 c_1), (0, v0), (1, v1)]) S tys tys_ok 1 (by kernel_rfl) ?_
      clear S; intro a S
      obtain ⟨x_22, ex_22, hl_8⟩ := bindS hl_8
      refine w_go S rfl (op_arith S .i64 (c_1 + 1) rfl (.inl rfl) rfl rfl rfl rfl ex_22 ?_)
      clear S; intro a S
      refine wl_pure (l' := [(5, .int .i64 x_22), (11, .int .i64 x_22), (10, .int .i64 c_1), (5, .int .i64 c_1), (0, v0), (1, v1)]) S tys tys_ok 1 (by kernel_rfl) ?_
      clear S; intro a S
      refine wpList_nil ?_
      refine then_n ?_
      exact ⟨x_22, ⟨S.sub (by exact ⟨rfl, rfl, rfl, trivial⟩), W, (ckI_some ex_22).2.1, R0, R1, hl_8⟩⟩
    ·intro hc
     rw [if_neg (Bool.eq_false_iff.1 hc)] at hl_8
     refine wp_exit ?_
     refine then_x ?_
     refine then_x ?_
     refine blk_hit ?_
     refine then_n ?_
     obtain rfl := Option.some.inj hl_8
     exact ⟨_, rfl, ⟨S.sub trivial, W⟩⟩
 clear S W; rintro a w_23 ⟨s_6, rfl, S, W⟩
 replace h := lr_inl h; try dsimp only at h
 refine then_n ?_
 refine wp_seq ?_
 refine wp_region_lit ?_
 refine wl_pure (l' := [(4, .int .i64 (-1))]) S tys tys_ok 1 (by kernel_rfl) ?_
 clear S; intro a S
 refine wpList_nil ?_
 refine then_n ?_
 refine wp_ret ?_
 obtain rfl := Option.some.inj h
 exact b_ret1 S rfl rfl ⟨_, rfl, (RepV.mkInt (by decide)), W.below⟩
theorem cb10 : callB Try.prog 10 = true := by kernel_rfl
def p11 (n : Nat) (x0 : Sl (Int)) (x1 : Sl (Int)) : Option ((Bool)) :=
 (if (decide ((lenI x1) > (lenI x0))) = true then (slI x1 0 (lenI x0)).bind fun s_7 => (p22 n s_7 x0).bind fun t_8 => some t_8 else some false).bind fun q_3 =>
 some q_3
set_option maxHeartbeats 4000000 in
set_option maxRecDepth 100000 in
/-- plugboard/plugboardlaw32.above -/
theorem c11 (K : Nat → Prop) (n : Nat) (w : World) (x0 : Sl (Int)) (v0 : Value) (R0 : RepV (.sl (.int .u8)) w K v0 x0) (x1 : Sl (Int)) (v1 : Value) (R1 : RepV (.sl (.int .u8)) w K v1 x1) {r : (Bool)} (h : p11 n x0 x1 = some r) :
  Calls Try.prog 11 #[v0, v1] w (Ret1 .bool w (Kx K w.heap.size []) r) := by
 refine enter (args := [v0, v1]) Try.func11 rfl 18 rfl rfl fun a S => ?_
 have W := Wd.start w
 replace R0 := R0.arg
 replace R1 := R1.arg
 unfold p11 at h
 replace S : St 18 a [(0, v0), (1, v1)] := S
 refine wp_seq ?_
 refine wp_region_lit ?_
 refine wl_pure (l' := [(4, .bool false), (0, v0), (1, v1)]) S tys tys_ok 1 (by kernel_rfl) ?_
 clear S; intro a S
 refine wpList_nil ?_
 refine then_n ?_
 replace S := S.sub (l' := [(0, v0), (1, v1)]) (by exact ⟨rfl, rfl, trivial⟩)
 refine wp_seq ?_
 refine wp_region_lit ?_
 refine wl_pure (l' := [(5, v1), (0, v0), (1, v1)]) S tys tys_ok 1 (by kernel_rfl) ?_
 clear S; intro a S
 refine w_go S rfl (op_len (K := _) S rfl ty35 rfl rfl rfl R1 ?_)
 clear S; intro a G_1 S
 refine wl_pure (l' := [(7, v0), (6, .int .i64 (lenI x1)), (5, v1), (0, v0), (1, v1)]) S tys tys_ok 1 (by kernel_rfl) ?_
 clear S; intro a S
 refine w_go S rfl (op_len (K := _) S rfl ty35 rfl rfl rfl R0 ?_)
 clear S; intro a G_2 S
 refine wl_pureK (l' := [(10, .bool (decide ((lenI x1) > (lenI x0)))), (0, v0), (1, v1)]) S tys tys_ok 2 [10, 0, 1] (by kernel_rfl) ?_
 clear S; intro a S
 obtain ⟨q_3, eq_3, h⟩ := bindS h
 refine seg 7 (fun a_ w_ => St 18 a_ [(17, .bool q_3)] ∧ Wd w w_ []) ?_ ?_
 ·by_cases hc : (decide ((lenI x1) > (lenI x0))) = true
  ·rw [if_pos hc] at eq_3; rw [hc] at S
   refine wl_pure (l' := [(12, v0), (11, v1), (10, .bool true), (0, v0), (1, v1)]) S tys tys_ok 2 (by kernel_rfl) ?_
   clear S; intro a S
   refine w_go S rfl (op_len (K := _) S rfl ty35 rfl rfl rfl R0 ?_)
   clear S; intro a G_4 S
   obtain ⟨s_7, es_7, eq_3⟩ := bindS eq_3
   refine w_go S rfl (op_slice S rfl ty35 rfl rfl rfl R1 (.inl ⟨rfl, rfl⟩) (.inr ⟨_, _, rfl, rfl⟩) es_7 ?_)
   clear S; intro a v_5 R_6 S
   refine wl_pureK (l' := [(15, v0), (14, v_5), (10, .bool true)]) S tys tys_ok 1 [15, 14, 10] (by kernel_rfl) ?_
   clear S; intro a S
   obtain ⟨t_8, et_8, eq_3⟩ := bindS eq_3
   refine w_go S rfl (op_call (vs := [v_5, v0]) S rfl cb22 rfl rfl rfl (c22 (Kx K w.heap.size []) n w s_7 _ R_6 x0 _ R0 et_8) ?_)
   rintro _ w_12 ⟨v_9, rfl, R_10, hb_11⟩; refine ⟨_, rfl, ?_⟩
   replace R_10 := RepV.back R_10 W
   clear S; intro a S
   replace R_6 := R_6.step hb_11
   replace R0 := R0.step hb_11
   replace W := W.step hb_11
   obtain rfl := RepV.bool R_10
   refine wl_pureK (l' := [(17, .bool t_8)]) S tys tys_ok 1 [17] (by kernel_rfl) ?_
   clear S; intro a S
   obtain rfl := Option.some.inj eq_3
   exact ⟨S.sub (by exact ⟨rfl, trivial⟩), W⟩
  ·rw [if_neg hc] at eq_3; rw [show (decide ((lenI x1) > (lenI x0))) = false from Bool.eq_false_iff.2 hc] at S
   refine wl_pureK (l' := [(17, .bool false)]) S tys tys_ok 7 [17] (by kernel_rfl) ?_
   clear S; intro a S
   obtain rfl := Option.some.inj eq_3
   exact ⟨S.sub (by exact ⟨rfl, trivial⟩), W⟩
 clear S W eq_3; rintro a w_13 ⟨S, W⟩
 refine wl_pure (l' := [(4, .bool q_3), (17, .bool q_3)]) S tys tys_ok 1 (by kernel_rfl) ?_
 clear S; intro a S
 refine wpList_nil ?_
 refine then_n ?_
 replace S := S.sub (l' := [(4, .bool q_3)]) (by exact ⟨rfl, trivial⟩)
 refine wp_ret ?_
 obtain rfl := Option.some.inj h
 exact b_ret1 S rfl rfl ⟨_, rfl, RepV.mkBool, W.below⟩
theorem cb11 : callB Try.prog 11 = true := by kernel_rfl

end Go.Proofs.Ytflieonbbggmhaa
