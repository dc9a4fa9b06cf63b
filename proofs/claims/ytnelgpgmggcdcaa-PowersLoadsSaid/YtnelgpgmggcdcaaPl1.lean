/- Functions of the program, as plain data. -/
import Derived.Test.YtnelgpgmggcdcaaP3
set_option linter.unusedVariables false
set_option linter.unusedSimpArgs false
namespace Go.Proofs.Ytnelgpgmggcdcaa
open Go.RowKit

def p3_l1 (n : Nat) (t_1 : (Sl (Int × Int × Bool × Bool × Bool × Bool × Int))) : Nat → (Int) → (List (Int)) → (List (Int)) → (List (Int)) → Option (((List (Int)) × (List (Int)) × (List (Int))) ⊕ ((Bool)))
  | 0, _, _, _, _ => .none
  | m + 1, c_10, c_12, c_15, c_18 => if (decide (c_10 < (lenI (⟨t_1.xs, t_1.cap⟩ : Sl (Int × Int × Bool × Bool × Bool × Bool × Int))))) then ((p10 n (⟨t_1.xs, t_1.cap⟩ : Sl (Int × Int × Bool × Bool × Bool × Bool × Int)) c_10 (List.replicate 128 (0 : Int))).bind fun t_49 => (appI c_18 ([t_49])).bind fun l_58 => (p11 n (⟨t_1.xs, t_1.cap⟩ : Sl (Int × Int × Bool × Bool × Bool × Bool × Int)) c_10).bind fun t_63 => (appI c_15 ([t_63])).bind fun l_72 => (p11 n (⟨t_1.xs, t_1.cap⟩ : Sl (Int × Int × Bool × Bool × Bool × Bool × Int)) c_10).bind fun t_77 => (if (decide (t_49 > t_77)) then ((appI c_12 ([c_10])).bind fun l_89 => some l_89) else some c_12).bind fun (j_82 : (List (Int))) => (idx t_1.xs c_10).bind fun y_95 => (p12 n y_95).bind fun t_101 => (idx t_1.xs c_10).bind fun y_106 => (p13 n y_106).bind fun t_112 => if (t_101 != t_112) then (some (.inr false)) else (ckI .i64 (c_10 + 1)).bind fun x_191 => p3_l1 n t_1 m x_191 j_82 l_72 l_58) else some (.inl (c_18, c_15, c_12))
def p3 (n : Nat) (x0 : Sl (Int × Int × Int × Int)) : Option ((Bool)) :=
  (p9 n x0).bind fun t_1 =>
  (p3_l1 n t_1 n 0 [] [] []).bind fun (y_32 : ((List (Int)) × (List (Int)) × (List (Int))) ⊕ ((Bool))) =>
  lrK y_32 some fun (s_33 : (List (Int)) × (List (Int)) × (List (Int))) =>
  (p14 n (⟨t_1.xs, t_1.cap⟩ : Sl (Int × Int × Bool × Bool × Bool × Bool × Int))).bind fun t_194 =>
  (p15 n (⟨t_1.xs, t_1.cap⟩ : Sl (Int × Int × Bool × Bool × Bool × Bool × Int))).bind fun t_201 =>
  (p16 n (⟨t_1.xs, t_1.cap⟩ : Sl (Int × Int × Bool × Bool × Bool × Bool × Int))).bind fun t_208 =>
  (p17 n (⟨t_1.xs, t_1.cap⟩ : Sl (Int × Int × Bool × Bool × Bool × Bool × Int))).bind fun t_215 =>
  (if (t_215 == 0) = true then some (t_194.2 == 0) else some false).bind fun q_220 =>
  (if q_220 = true then some (t_201.2 == 0) else some false).bind fun q_221 =>
  (if q_221 = true then some (t_208.2 == 0) else some false).bind fun q_222 =>
  (if q_222 = true then (p18 n (⟨t_194.1.xs, t_194.1.cap⟩ : Sl (Int)) (⟨s_33.1, .none⟩ : Sl (Int))).bind fun t_224 => some t_224 else some false).bind fun q_223 =>
  (if q_223 = true then (p18 n (⟨t_201.1.xs, t_201.1.cap⟩ : Sl (Int)) (⟨s_33.2.1, .none⟩ : Sl (Int))).bind fun t_231 => some t_231 else some false).bind fun q_230 =>
  (if q_230 = true then (p18 n t_208.1 (⟨s_33.2.2, .none⟩ : Sl (Int))).bind fun t_238 => some t_238 else some false).bind fun q_237 =>
  (if q_237 = true then (p19 n).bind fun t_245 => some t_245 else some false).bind fun q_244 =>
  some q_244
set_option maxHeartbeats 4000000 in
set_option maxRecDepth 100000 in
/-- plugboard/plugboardlaw19.PowersLoads -/
theorem c3 (K : Nat → Prop) (n : Nat) (w : World) (x0 : Sl (Int × Int × Int × Int)) (v0 : Value) (R0 : RepV (.sl gt0) w K v0 x0) {r : (Bool)} (h : p3 n x0 = some r) :
    Calls Try.prog 3 #[v0] w (Ret1 .bool w (Kx K w.heap.size []) r) := by
  refine enter (args := [v0]) Try.func3 rfl 106 rfl rfl fun a S => ?_
  have W := Wd.start w
  replace R0 := R0.arg
  unfold p3 at h
  replace S : St 106 a [(0, v0)] := S
  refine wp_seq ?_
  refine wp_region_lit ?_
  refine wl_pure (l' := [(2, .bool false), (0, v0)]) S tys tys_ok 1 (by kernel_rfl) ?_
  clear S; intro a S
  refine wpList_nil ?_
  refine then_n ?_
  replace S := S.sub (l' := [(0, v0)]) (by exact ⟨rfl, trivial⟩)
  refine wp_seq ?_
  refine wp_region_lit ?_
  refine wl_pure (l' := [(16, v0), (0, v0)]) S tys tys_ok 1 (by kernel_rfl) ?_
  clear S; intro a S
  obtain ⟨t_1, et_1, h⟩ := bindS h
  refine w_go S rfl (op_call (vs := [v0]) S rfl cb9 rfl rfl rfl (c9 (Kx K w.heap.size []) n w x0 _ R0 et_1) ?_)
  rintro _ w_5 ⟨v_2, rfl, R_3, hb_4⟩; refine ⟨_, rfl, ?_⟩
  have NO_ := newO_of R_3 (Nat.le_refl _) hb_4
  replace R_3 := Ow.backO R_3 W
  clear S; intro a S
  replace R0 := R0.newO NO_
  replace W := W.newO NO_
  clear NO_
  refine wl_pureK (l' := [(3, v_2)]) S tys tys_ok 1 [3] (by kernel_rfl) ?_
  clear S; intro a S
  refine wpList_nil ?_
  refine then_n ?_
  refine wp_seq ?_
  refine wp_region_lit ?_
  refine w_go S rfl (op_alloc (K := K) (n := w.heap.size) (L := [v_2.ownBlock]) (t := (.arr 128 (.int .i64))) (y := (List.replicate 128 (0 : Int))) S rfl rfl rfl _ z26 (fun w K => (rep_replicate (e := (.int .i64)) (z := 0) (cs := [.int .i64 0]) (⟨rfl, by decide⟩) 128)) ?_)
  clear S; intro a w_8 b_6 hb_9 B_7 S
  replace R_3 := R_3.box hb_9
  replace W := W.box hb_9
  refine wpList_nil ?_
  refine then_n ?_
  refine wp_seq ?_
  refine wp_region_lit ?_
  refine wl_pure (l' := [(7, .slice .none 0 0), (6, .slice .none 0 0), (5, .slice .none 0 0), (4, pB b_6), (3, v_2)]) S tys tys_ok 3 (by kernel_rfl) ?_
  clear S; intro a S
  refine wpList_nil ?_
  refine then_n ?_
  refine wp_seq ?_
  refine wp_seq ?_
  refine wp_region_lit ?_
  refine wl_pure (l' := [(8, .int .i64 0), (7, .slice .none 0 0), (6, .slice .none 0 0), (5, .slice .none 0 0), (4, pB b_6), (3, v_2)]) S tys tys_ok 1 (by kernel_rfl) ?_
  clear S; intro a S
  refine wpList_nil ?_
  refine then_n ?_
  obtain ⟨y_32, ey_32, h⟩ := bindS h
  refine wp_cut_ (fun a_ w_ => ∃ s_33 : (List (Int)) × (List (Int)) × (List (Int)), y_32 = .inl s_33 ∧ (∃ (v_34 : Value) (v_36 : Value) (v_38 : Value), St 106 a_ [(3, v_2), (5, v_34), (6, v_36), (7, v_38)] ∧ Wd w w_ [v_38.ownBlock, v_36.ownBlock, v_34.ownBlock, some b_6, v_2.ownBlock] ∧ Bx (.arr 128 (.int .i64)) 26 w_ (Kx K w.heap.size [v_38.ownBlock, v_36.ownBlock, v_34.ownBlock, some b_6, v_2.ownBlock]) b_6 (List.replicate 128 (0 : Int)) ∧ Ow gt1 32 w_ w.heap.size (Kx K w.heap.size [v_38.ownBlock, v_36.ownBlock, v_34.ownBlock, some b_6, v_2.ownBlock]) v_2 t_1.xs t_1.cap ∧ Ow (.int .i64) 3 w_ w.heap.size (Kx K w.heap.size [v_38.ownBlock, v_36.ownBlock, v_34.ownBlock, some b_6, v_2.ownBlock]) v_34 s_33.1 .none ∧ Ow (.int .i64) 3 w_ w.heap.size (Kx K w.heap.size [v_38.ownBlock, v_36.ownBlock, v_34.ownBlock, some b_6, v_2.ownBlock]) v_36 s_33.2.1 .none ∧ Ow (.int .i64) 3 w_ w.heap.size (Kx K w.heap.size [v_38.ownBlock, v_36.ownBlock, v_34.ownBlock, some b_6, v_2.ownBlock]) v_38 s_33.2.2 .none)) ?_ ?_
  · refine wp_block ?_
    refine wp_loop_n (fun m_ a_ w_ => ∃ (c_10 : Int) (c_12 : List (Int)) (c_15 : List (Int)) (c_18 : List (Int)) , ∃ (v_13 : Value) (v_16 : Value) (v_19 : Value), St 106 a_ [(8, .int .i64 c_10), (7, v_13), (6, v_16), (5, v_19), (4, pB b_6), (3, v_2)] ∧ Wd w w_ [v_19.ownBlock, v_16.ownBlock, v_13.ownBlock, some b_6, v_2.ownBlock] ∧ InR .i64 c_10 ∧ Bx (.arr 128 (.int .i64)) 26 w_ (Kx K w.heap.size [v_19.ownBlock, v_16.ownBlock, v_13.ownBlock, some b_6, v_2.ownBlock]) b_6 (List.replicate 128 (0 : Int)) ∧ Ow (.int .i64) 3 w_ w.heap.size (Kx K w.heap.size [v_19.ownBlock, v_16.ownBlock, v_13.ownBlock, some b_6, v_2.ownBlock]) v_13 c_12 .none ∧ Ow (.int .i64) 3 w_ w.heap.size (Kx K w.heap.size [v_19.ownBlock, v_16.ownBlock, v_13.ownBlock, some b_6, v_2.ownBlock]) v_16 c_15 .none ∧ Ow (.int .i64) 3 w_ w.heap.size (Kx K w.heap.size [v_19.ownBlock, v_16.ownBlock, v_13.ownBlock, some b_6, v_2.ownBlock]) v_19 c_18 .none ∧ Ow gt1 32 w_ w.heap.size (Kx K w.heap.size [v_19.ownBlock, v_16.ownBlock, v_13.ownBlock, some b_6, v_2.ownBlock]) v_2 t_1.xs t_1.cap ∧ p3_l1 n t_1 m_ c_10 c_12 c_15 c_18 = some y_32) n ?_ ?_
    · skip
      replace B_7 := B_7.more
      replace R_3 := R_3.more
      replace W := W.more
      have O_42 : Ow (.int .i64) 3 w_8 w.heap.size (Kx K w.heap.size [.none, some b_6, v_2.ownBlock]) (.slice .none 0 0) ([] : List (Int)) (some 0) := Ow.nil
      replace B_7 := B_7.more
      replace R_3 := R_3.more
      replace O_42 := O_42.more
      replace W := W.more
      have O_43 : Ow (.int .i64) 3 w_8 w.heap.size (Kx K w.heap.size [.none, .none, some b_6, v_2.ownBlock]) (.slice .none 0 0) ([] : List (Int)) (some 0) := Ow.nil
      replace B_7 := B_7.more
      replace R_3 := R_3.more
      replace O_43 := O_43.more
      replace O_42 := O_42.more
      replace W := W.more
      have O_44 : Ow (.int .i64) 3 w_8 w.heap.size (Kx K w.heap.size [.none, .none, .none, some b_6, v_2.ownBlock]) (.slice .none 0 0) ([] : List (Int)) (some 0) := Ow.nil
      exact ⟨0, [], [], [], ⟨(.slice .none 0 0), (.slice .none 0 0), (.slice .none 0 0), S.sub (by exact ⟨rfl, rfl, rfl, rfl, rfl, rfl, trivial⟩), W, (by decide), B_7, O_42.forget, O_43.forget, O_44.forget, R_3, ey_32⟩⟩
    · clear S W; rintro m_40 a w_45 ⟨c_10, c_12, c_15, c_18, v_13, v_16, v_19, S, W, G_11, B_7, O_14, O_17, O_20, R_3, hl_41⟩
      cases m_40 with
      | zero => exact absurd hl_41 (by simp [p3_l1])
      | succ m_40 =>
        refine ⟨m_40, rfl, ?_⟩
        rw [p3_l1] at hl_41
        refine wp_seq ?_
        refine wp_seq ?_
        refine wp_region_lit ?_
        refine wl_pure (l' := [(19, v_2), (18, .int .i64 c_10), (8, .int .i64 c_10), (7, v_13), (6, v_16), (5, v_19), (4, pB b_6), (3, v_2)]) S tys tys_ok 2 (by kernel_rfl) ?_
        clear S; intro a S
        refine w_go S rfl (op_len (K := _) S rfl ty24 rfl rfl rfl R_3.read ?_)
        clear S; intro a G_46 S
        refine wl_pureK (l' := [(21, .bool (decide (c_10 < (lenI (⟨t_1.xs, t_1.cap⟩ : Sl (Int × Int × Bool × Bool × Bool × Bool × Int)))))), (8, .int .i64 c_10), (7, v_13), (6, v_16), (5, v_19), (4, pB b_6), (3, v_2)]) S tys tys_ok 1 [21, 8, 7, 6, 5, 4, 3] (by kernel_rfl) ?_
        clear S; intro a S
        refine wpList_nil ?_
        refine then_n ?_
        refine wp_cond_split (S.eval (show ev _ _ = some (.bool (decide (c_10 < (lenI (⟨t_1.xs, t_1.cap⟩ : Sl (Int × Int × Bool × Bool × Bool × Bool × Int)))))) from rfl)) ?_ ?_
        · intro hc
          rw [if_pos hc] at hl_41
          refine wp_skip ?_
          refine then_n ?_
          replace S := S.sub (l' := [(8, .int .i64 c_10), (7, v_13), (6, v_16), (5, v_19), (4, pB b_6), (3, v_2)]) (by exact ⟨rfl, rfl, rfl, rfl, rfl, rfl, trivial⟩)
          refine wp_seq ?_
          refine wp_block ?_
          refine wp_seq ?_
          refine wp_region_lit ?_
          refine wl_pure (l' := [(25, .int .i64 c_10), (24, v_2), (8, .int .i64 c_10), (7, v_13), (6, v_16), (5, v_19), (4, pB b_6), (3, v_2)]) S tys tys_ok 2 (by kernel_rfl) ?_
          clear S; intro a S
          refine w_go S rfl (op_load (t := (.arr 128 (.int .i64))) (x := (List.replicate 128 (0 : Int))) S rfl ty26 rfl rfl rfl B_7.at_ ?_)
          clear S; intro a v_47 R_48 S
          obtain ⟨t_49, et_49, hl_41⟩ := bindS hl_41
          refine w_go S rfl (op_call (vs := [v_2, .int .i64 c_10, v_47]) S rfl cb10 rfl rfl rfl (c10 (Kx K w.heap.size []) n w_45 (⟨t_1.xs, t_1.cap⟩ : Sl (Int × Int × Bool × Bool × Bool × Bool × Int)) _ (Ow.read R_3) c_10 G_11 (List.replicate 128 (0 : Int)) _ R_48.out et_49) ?_)
          rintro _ w_53 ⟨v_50, rfl, R_51, hb_52⟩; refine ⟨_, rfl, ?_⟩
          clear S; intro a S
          replace R_48 := R_48.step hb_52
          replace B_7 := B_7.step hb_52
          replace O_14 := O_14.step hb_52
          replace O_17 := O_17.step hb_52
          replace O_20 := O_20.step hb_52
          replace R_3 := R_3.step hb_52
          replace W := W.step hb_52
          obtain ⟨rfl, GR_51⟩ := RepV.int R_51
          refine wl_pureK (l' := [(9, .int .i64 t_49), (8, .int .i64 c_10), (7, v_13), (6, v_16), (5, v_19), (4, pB b_6), (3, v_2)]) S tys tys_ok 1 [9, 8, 7, 6, 5, 4, 3] (by kernel_rfl) ?_
          clear S; intro a S
          refine wpList_nil ?_
          refine then_n ?_
          refine wp_seq ?_
          refine wp_region_lit ?_
          refine wl_pure (l' := [(29, .int .i64 t_49), (28, v_19), (9, .int .i64 t_49), (8, .int .i64 c_10), (7, v_13), (6, v_16), (5, v_19), (4, pB b_6), (3, v_2)]) S tys tys_ok 2 (by kernel_rfl) ?_
          clear S; intro a S
          refine w_go S rfl (op_buildSlice (K := K) (e := (.int .i64)) (vs := [.int .i64 t_49]) (xs := [t_49]) S W rfl ty27 rfl rfl (by kernel_rfl) rfl rfl rfl rfl rfl ⟨(RepV.mkInt GR_51), trivial⟩ ?_)
          clear S; intro a w_57 v_54 hb_56 R_55 S
          replace B_7 := B_7.step hb_56
          replace O_14 := O_14.step hb_56
          replace O_17 := O_17.step hb_56
          replace O_20 := O_20.step hb_56
          replace R_3 := R_3.step hb_56
          replace W := W.step hb_56
          obtain ⟨l_58, el_58, hl_41⟩ := bindS hl_41
          refine w_go S rfl (op_append S W (E := 3) 0 rfl ty27 un27 by27 rfl rfl rfl rfl O_20 rfl R_55 el_58 ?_)
          clear S; intro a w_60 v_59 A_61 O_62 S
          replace R_55 : RepV (.sl (.int .i64)) w_60 (Kx K w.heap.size [v_59.ownBlock, v_16.ownBlock, v_13.ownBlock, some b_6, v_2.ownBlock]) v_54 (⟨[t_49], some 1⟩ : Sl (Int)) := R_55.apd A_61 (i := 0) rfl
          replace B_7 : Bx (.arr 128 (.int .i64)) 26 w_60 (Kx K w.heap.size [v_59.ownBlock, v_16.ownBlock, v_13.ownBlock, some b_6, v_2.ownBlock]) b_6 (List.replicate 128 (0 : Int)) := B_7.apd W A_61 (i := 0) rfl (j := 3) rfl (by decide)
          replace O_14 : Ow (.int .i64) 3 w_60 w.heap.size (Kx K w.heap.size [v_59.ownBlock, v_16.ownBlock, v_13.ownBlock, some b_6, v_2.ownBlock]) v_13 c_12 .none := O_14.apd W A_61 (i := 0) rfl (j := 2) rfl (by decide)
          replace O_17 : Ow (.int .i64) 3 w_60 w.heap.size (Kx K w.heap.size [v_59.ownBlock, v_16.ownBlock, v_13.ownBlock, some b_6, v_2.ownBlock]) v_16 c_15 .none := O_17.apd W A_61 (i := 0) rfl (j := 1) rfl (by decide)
          replace R_3 : Ow gt1 32 w_60 w.heap.size (Kx K w.heap.size [v_59.ownBlock, v_16.ownBlock, v_13.ownBlock, some b_6, v_2.ownBlock]) v_2 t_1.xs t_1.cap := R_3.apd W A_61 (i := 0) rfl (j := 4) rfl (by decide)
          replace W : Wd w w_60 [v_59.ownBlock, v_16.ownBlock, v_13.ownBlock, some b_6, v_2.ownBlock] := W.apd A_61 (i := 0) rfl
          replace O_62 : Ow (.int .i64) 3 w_60 w.heap.size (Kx K w.heap.size [v_59.ownBlock, v_16.ownBlock, v_13.ownBlock, some b_6, v_2.ownBlock]) v_59 l_58 (capA .none l_58.length) := O_62
          refine wl_pureK (l' := [(5, v_59), (9, .int .i64 t_49), (8, .int .i64 c_10), (7, v_13), (6, v_16), (5, v_19), (4, pB b_6), (3, v_2)]) S tys tys_ok 1 [5, 9, 8, 7, 6, 4, 3] (by kernel_rfl) ?_
          clear S; intro a S
          refine wpList_nil ?_
          refine then_n ?_
          refine wp_seq ?_
          refine wp_region_lit ?_
          refine wl_pure (l' := [(34, .int .i64 c_10), (33, v_2), (32, v_16), (5, v_59), (9, .int .i64 t_49), (8, .int .i64 c_10), (7, v_13), (6, v_16), (5, v_19), (4, pB b_6), (3, v_2)]) S tys tys_ok 3 (by kernel_rfl) ?_
          clear S; intro a S
          obtain ⟨t_63, et_63, hl_41⟩ := bindS hl_41
          refine w_go S rfl (op_call (vs := [v_2, .int .i64 c_10]) S rfl cb11 rfl rfl rfl (c11 (Kx K w.heap.size []) n w_60 (⟨t_1.xs, t_1.cap⟩ : Sl (Int × Int × Bool × Bool × Bool × Bool × Int)) _ (Ow.read R_3) c_10 G_11 et_63) ?_)
          rintro _ w_67 ⟨v_64, rfl, R_65, hb_66⟩; refine ⟨_, rfl, ?_⟩
          clear S; intro a S
          replace B_7 := B_7.step hb_66
          replace O_14 := O_14.step hb_66
          replace O_17 := O_17.step hb_66
          replace R_3 := R_3.step hb_66
          replace O_62 := O_62.step hb_66
          replace W := W.step hb_66
          obtain ⟨rfl, GR_65⟩ := RepV.int R_65
          refine w_go S rfl (op_buildSlice (K := K) (e := (.int .i64)) (vs := [.int .i64 t_63]) (xs := [t_63]) S W rfl ty27 rfl rfl (by kernel_rfl) rfl rfl rfl rfl rfl ⟨(RepV.mkInt GR_65), trivial⟩ ?_)
          clear S; intro a w_71 v_68 hb_70 R_69 S
          replace B_7 := B_7.step hb_70
          replace O_14 := O_14.step hb_70
          replace O_17 := O_17.step hb_70
          replace R_3 := R_3.step hb_70
          replace O_62 := O_62.step hb_70
          replace W := W.step hb_70
          obtain ⟨l_72, el_72, hl_41⟩ := bindS hl_41
          refine w_go S rfl (op_append S W (E := 3) 1 rfl ty27 un27 by27 rfl rfl rfl rfl O_17 rfl R_69 el_72 ?_)
          clear S; intro a w_74 v_73 A_75 O_76 S
          replace R_69 : RepV (.sl (.int .i64)) w_74 (Kx K w.heap.size [v_59.ownBlock, v_73.ownBlock, v_13.ownBlock, some b_6, v_2.ownBlock]) v_68 (⟨[t_63], some 1⟩ : Sl (Int)) := R_69.apd A_75 (i := 1) rfl
          replace B_7 : Bx (.arr 128 (.int .i64)) 26 w_74 (Kx K w.heap.size [v_59.ownBlock, v_73.ownBlock, v_13.ownBlock, some b_6, v_2.ownBlock]) b_6 (List.replicate 128 (0 : Int)) := B_7.apd W A_75 (i := 1) rfl (j := 3) rfl (by decide)
          replace O_14 : Ow (.int .i64) 3 w_74 w.heap.size (Kx K w.heap.size [v_59.ownBlock, v_73.ownBlock, v_13.ownBlock, some b_6, v_2.ownBlock]) v_13 c_12 .none := O_14.apd W A_75 (i := 1) rfl (j := 2) rfl (by decide)
          replace R_3 : Ow gt1 32 w_74 w.heap.size (Kx K w.heap.size [v_59.ownBlock, v_73.ownBlock, v_13.ownBlock, some b_6, v_2.ownBlock]) v_2 t_1.xs t_1.cap := R_3.apd W A_75 (i := 1) rfl (j := 4) rfl (by decide)
          replace O_62 : Ow (.int .i64) 3 w_74 w.heap.size (Kx K w.heap.size [v_59.ownBlock, v_73.ownBlock, v_13.ownBlock, some b_6, v_2.ownBlock]) v_59 l_58 (capA .none l_58.length) := O_62.apd W A_75 (i := 1) rfl (j := 0) rfl (by decide)
          replace W : Wd w w_74 [v_59.ownBlock, v_73.ownBlock, v_13.ownBlock, some b_6, v_2.ownBlock] := W.apd A_75 (i := 1) rfl
          replace O_76 : Ow (.int .i64) 3 w_74 w.heap.size (Kx K w.heap.size [v_59.ownBlock, v_73.ownBlock, v_13.ownBlock, some b_6, v_2.ownBlock]) v_73 l_72 (capA .none l_72.length) := O_76
          refine wl_pureK (l' := [(6, v_73), (5, v_59), (9, .int .i64 t_49), (8, .int .i64 c_10), (7, v_13), (6, v_16), (5, v_19), (4, pB b_6), (3, v_2)]) S tys tys_ok 1 [6, 5, 9, 8, 7, 4, 3] (by kernel_rfl) ?_
          clear S; intro a S
          refine wpList_nil ?_
          refine then_n ?_
          refine wp_seq ?_
          refine wp_seq ?_
          refine wp_region_lit ?_
          refine wl_pure (l' := [(40, .int .i64 c_10), (39, v_2), (38, .int .i64 t_49), (6, v_73), (5, v_59), (9, .int .i64 t_49), (8, .int .i64 c_10), (7, v_13), (6, v_16), (5, v_19), (4, pB b_6), (3, v_2)]) S tys tys_ok 3 (by kernel_rfl) ?_
          clear S; intro a S
          obtain ⟨t_77, et_77, hl_41⟩ := bindS hl_41
          refine w_go S rfl (op_call (vs := [v_2, .int .i64 c_10]) S rfl cb11 rfl rfl rfl (c11 (Kx K w.heap.size []) n w_74 (⟨t_1.xs, t_1.cap⟩ : Sl (Int × Int × Bool × Bool × Bool × Bool × Int)) _ (Ow.read R_3) c_10 G_11 et_77) ?_)
          rintro _ w_81 ⟨v_78, rfl, R_79, hb_80⟩; refine ⟨_, rfl, ?_⟩
          clear S; intro a S
          replace B_7 := B_7.step hb_80
          replace O_14 := O_14.step hb_80
          replace R_3 := R_3.step hb_80
          replace O_62 := O_62.step hb_80
          replace O_76 := O_76.step hb_80
          replace W := W.step hb_80
          obtain ⟨rfl, GR_79⟩ := RepV.int R_79
          refine wl_pureK (l' := [(42, .bool (decide (t_49 > t_77))), (6, v_73), (5, v_59), (8, .int .i64 c_10), (7, v_13), (6, v_16), (5, v_19), (4, pB b_6), (3, v_2)]) S tys tys_ok 1 [42, 6, 5, 8, 7, 4, 3] (by kernel_rfl) ?_
          clear S; intro a S
          refine wpList_nil ?_
          refine then_n ?_
          obtain ⟨j_82, ej_82, hl_41⟩ := bindS hl_41
          refine wp_cut_ (fun a_ w_ => ∃ (v_83 : Value), St 106 a_ [(6, v_73), (5, v_59), (8, .int .i64 c_10), (7, v_83), (4, pB b_6), (3, v_2)] ∧ Wd w w_ [v_59.ownBlock, v_73.ownBlock, v_83.ownBlock, some b_6, v_2.ownBlock] ∧ Bx (.arr 128 (.int .i64)) 26 w_ (Kx K w.heap.size [v_59.ownBlock, v_73.ownBlock, v_83.ownBlock, some b_6, v_2.ownBlock]) b_6 (List.replicate 128 (0 : Int)) ∧ Ow (.int .i64) 3 w_ w.heap.size (Kx K w.heap.size [v_59.ownBlock, v_73.ownBlock, v_83.ownBlock, some b_6, v_2.ownBlock]) v_73 l_72 (capA .none l_72.length) ∧ Ow (.int .i64) 3 w_ w.heap.size (Kx K w.heap.size [v_59.ownBlock, v_73.ownBlock, v_83.ownBlock, some b_6, v_2.ownBlock]) v_59 l_58 (capA .none l_58.length) ∧ Ow (.int .i64) 3 w_ w.heap.size (Kx K w.heap.size [v_59.ownBlock, v_73.ownBlock, v_83.ownBlock, some b_6, v_2.ownBlock]) v_83 j_82 .none ∧ Ow gt1 32 w_ w.heap.size (Kx K w.heap.size [v_59.ownBlock, v_73.ownBlock, v_83.ownBlock, some b_6, v_2.ownBlock]) v_2 t_1.xs t_1.cap) ?_ ?_
          · refine wp_cond_split (S.eval (show ev _ _ = some (.bool (decide (t_49 > t_77))) from rfl)) ?_ ?_
            · intro hc
              rw [if_pos hc] at ej_82
              refine wp_region_lit ?_
              refine wl_pure (l' := [(44, .int .i64 c_10), (43, v_13), (42, .bool (decide (t_49 > t_77))), (6, v_73), (5, v_59), (8, .int .i64 c_10), (7, v_13), (6, v_16), (5, v_19), (4, pB b_6), (3, v_2)]) S tys tys_ok 2 (by kernel_rfl) ?_
              clear S; intro a S
              refine w_go S rfl (op_buildSlice (K := K) (e := (.int .i64)) (vs := [.int .i64 c_10]) (xs := [c_10]) S W rfl ty27 rfl rfl (by kernel_rfl) rfl rfl rfl rfl rfl ⟨(RepV.mkInt G_11), trivial⟩ ?_)
              clear S; intro a w_88 v_85 hb_87 R_86 S
              replace B_7 := B_7.step hb_87
              replace O_14 := O_14.step hb_87
              replace R_3 := R_3.step hb_87
              replace O_62 := O_62.step hb_87
              replace O_76 := O_76.step hb_87
              replace W := W.step hb_87
              obtain ⟨l_89, el_89, ej_82⟩ := bindS ej_82
              refine w_go S rfl (op_append S W (E := 3) 2 rfl ty27 un27 by27 rfl rfl rfl rfl O_14 rfl R_86 el_89 ?_)
              clear S; intro a w_91 v_90 A_92 O_93 S
              replace R_86 : RepV (.sl (.int .i64)) w_91 (Kx K w.heap.size [v_59.ownBlock, v_73.ownBlock, v_90.ownBlock, some b_6, v_2.ownBlock]) v_85 (⟨[c_10], some 1⟩ : Sl (Int)) := R_86.apd A_92 (i := 2) rfl
              replace B_7 : Bx (.arr 128 (.int .i64)) 26 w_91 (Kx K w.heap.size [v_59.ownBlock, v_73.ownBlock, v_90.ownBlock, some b_6, v_2.ownBlock]) b_6 (List.replicate 128 (0 : Int)) := B_7.apd W A_92 (i := 2) rfl (j := 3) rfl (by decide)
              replace R_3 : Ow gt1 32 w_91 w.heap.size (Kx K w.heap.size [v_59.ownBlock, v_73.ownBlock, v_90.ownBlock, some b_6, v_2.ownBlock]) v_2 t_1.xs t_1.cap := R_3.apd W A_92 (i := 2) rfl (j := 4) rfl (by decide)
              replace O_62 : Ow (.int .i64) 3 w_91 w.heap.size (Kx K w.heap.size [v_59.ownBlock, v_73.ownBlock, v_90.ownBlock, some b_6, v_2.ownBlock]) v_59 l_58 (capA .none l_58.length) := O_62.apd W A_92 (i := 2) rfl (j := 0) rfl (by decide)
              replace O_76 : Ow (.int .i64) 3 w_91 w.heap.size (Kx K w.heap.size [v_59.ownBlock, v_73.ownBlock, v_90.ownBlock, some b_6, v_2.ownBlock]) v_73 l_72 (capA .none l_72.length) := O_76.apd W A_92 (i := 2) rfl (j := 1) rfl (by decide)
              replace W : Wd w w_91 [v_59.ownBlock, v_73.ownBlock, v_90.ownBlock, some b_6, v_2.ownBlock] := W.apd A_92 (i := 2) rfl
              replace O_93 : Ow (.int .i64) 3 w_91 w.heap.size (Kx K w.heap.size [v_59.ownBlock, v_73.ownBlock, v_90.ownBlock, some b_6, v_2.ownBlock]) v_90 l_89 (capA .none l_89.length) := O_93
              refine wl_pureK (l' := [(7, v_90), (6, v_73), (5, v_59), (8, .int .i64 c_10), (7, v_13), (6, v_16), (5, v_19), (4, pB b_6), (3, v_2)]) S tys tys_ok 1 [7, 6, 5, 8, 4, 3] (by kernel_rfl) ?_
              clear S; intro a S
              refine wpList_nil ?_
              refine then_n ?_
              obtain rfl := Option.some.inj ej_82
              exact ⟨v_90, S.sub (by exact ⟨rfl, rfl, rfl, rfl, rfl, rfl, trivial⟩), W, B_7, O_76, O_62, O_93.forget, R_3⟩
            · intro hc
              rw [if_neg (Bool.eq_false_iff.1 hc)] at ej_82
              refine wp_skip ?_
              refine then_n ?_
              obtain rfl := Option.some.inj ej_82
              exact ⟨v_13, S.sub (by exact ⟨rfl, rfl, rfl, rfl, rfl, rfl, trivial⟩), W, B_7, O_76, O_62, O_14, R_3⟩
          clear S W; rintro a w_94 ⟨v_83, S, W, B_7, O_76, O_62, O_84, R_3⟩
          refine then_n ?_
          refine wp_seq ?_
          obtain ⟨y_95, ey_95, hl_41⟩ := bindS hl_41
          obtain ⟨t_101, et_101, hl_41⟩ := bindS hl_41
          obtain ⟨y_106, ey_106, hl_41⟩ := bindS hl_41
          obtain ⟨t_112, et_112, hl_41⟩ := bindS hl_41
          have hR : Rel (Kx K w.heap.size [v_59.ownBlock, v_73.ownBlock, v_83.ownBlock, some b_6, v_2.ownBlock]) Bl := Bl.rel _
          refine wp_region_all hR [eqv (v_2), isI .i64 c_10, isEo gt1 (Kx K w.heap.size [v_59.ownBlock, v_73.ownBlock, v_83.ownBlock, some b_6, v_2.ownBlock]) y_95, isRep gt1 (Kx K w.heap.size [v_59.ownBlock, v_73.ownBlock, v_83.ownBlock, some b_6, v_2.ownBlock]) y_95, isI .i64 t_101, eqv (v_2), isI .i64 c_10, isEo gt1 (Kx K w.heap.size [v_59.ownBlock, v_73.ownBlock, v_83.ownBlock, some b_6, v_2.ownBlock]) y_106, isRep gt1 (Kx K w.heap.size [v_59.ownBlock, v_73.ownBlock, v_83.ownBlock, some b_6, v_2.ownBlock]) y_106, isI .i64 t_112, eqv (.bool (t_101 != t_112))] [[], [], [(0, 47), (1, 48)], [(2, 49)], [(3, 50)], [], [], [(5, 52), (6, 53)], [(7, 54)], [(8, 55)], [(4, 51), (9, 56)]] (by kernel_rfl) (by rw [S.size]; kernel_rfl) (by kernel_rfl) (by kernel_rfl) rfl ⟨(stab_eqv _), stab_I, stab_eo, (stab_rep hR), stab_I, (stab_eqv _), stab_I, stab_eo, (stab_rep hR), stab_I, (stab_eqv _), trivial⟩ ?_ ?_
          ·
            refine RunAll.cons (eqv (v_2)) [] rfl rfl ?_ ?_
            · intro W_ hW
              have S1 := S
              refine fill_nil S1 ?_; clear S1; intro a_ S1
              replace R_3 := R_3.step hW
              have S0 := S.defers; replace S := S1; clear S1
              refine wl_pure (l' := [(47, v_2), (6, v_73), (5, v_59), (8, .int .i64 c_10), (7, v_83), (4, pB b_6), (3, v_2)]) S tys tys_ok 1 (by kernel_rfl) ?_; clear S; intro a S
              refine wpList_nil ?_
              exact RPost.mk_ S rfl S0 rfl (Below.refl _ _)
            refine RunAll.cons (isI .i64 c_10) [] rfl rfl ?_ ?_
            · intro W_ hW
              have S1 := S
              refine fill_nil S1 ?_; clear S1; intro a_ S1
              have S0 := S.defers; replace S := S1; clear S1
              refine wl_pure (l' := [(48, .int .i64 c_10), (6, v_73), (5, v_59), (8, .int .i64 c_10), (7, v_83), (4, pB b_6), (3, v_2)]) S tys tys_ok 1 (by kernel_rfl) ?_; clear S; intro a S
              refine wpList_nil ?_
              exact RPost.mk_ S rfl S0 ⟨rfl, G_11⟩ (Below.refl _ _)
            refine RunAll.cons (isEo gt1 (Kx K w.heap.size [v_59.ownBlock, v_73.ownBlock, v_83.ownBlock, some b_6, v_2.ownBlock]) y_95) [(eqv (v_2), 47), (isI .i64 c_10, 48)] rfl rfl ?_ ?_
            · intro W_ hW
              have S1 := S
              intro v_118 hF_117; obtain rfl : v_2 = v_118 := Eq.symm hF_117
              replace S1 := S1.put (by decide : 47 < 106) (v_2)
              rintro _ ⟨rfl, hF_119⟩
              replace S1 := S1.put (by decide : 48 < 106) (.int .i64 c_10)
              refine fill_nil S1 ?_; clear S1; intro a_ S1
              replace R_3 := R_3.step hW
              replace W := W.step hW
              have S0 := S.defers; replace S := S1; clear S1
              refine w_go S rfl (op_indexAddr_own S rfl ty24 rfl rfl rfl R_3 rfl ey_95 ?_)
              clear S; intro a g_121 H_123 R_122 S
              refine wpList_nil ?_
              exact RPost.mk_ S rfl S0 ⟨_, rfl, R_122, W.ownlt (o := v_2.ownBlock) (List.mem_of_getElem? (i := 4) rfl) H_123⟩ (Below.refl _ _)
            refine RunAll.cons (isRep gt1 (Kx K w.heap.size [v_59.ownBlock, v_73.ownBlock, v_83.ownBlock, some b_6, v_2.ownBlock]) y_95) [(isEo gt1 (Kx K w.heap.size [v_59.ownBlock, v_73.ownBlock, v_83.ownBlock, some b_6, v_2.ownBlock]) y_95, 49)] rfl rfl ?_ ?_
            · intro W_ hW
              have S1 := S
              rintro _ ⟨p_126, rfl, R_127, H_128⟩
              replace S1 := S1.put (by decide : 49 < 106) (.pointer (some p_126))
              refine fill_nil S1 ?_; clear S1; intro a_ S1
              have S0 := S.defers; replace S := S1; clear S1
              refine w_go S rfl (op_load (t := gt1) (x := y_95) S rfl ty32 rfl rfl rfl R_127 ?_)
              clear S; intro a v_129 R_130 S
              refine wpList_nil ?_
              exact RPost.mk_ S rfl S0 R_130 (Below.refl _ _)
            refine RunAll.cons (isI .i64 t_101) [(isRep gt1 (Kx K w.heap.size [v_59.ownBlock, v_73.ownBlock, v_83.ownBlock, some b_6, v_2.ownBlock]) y_95, 50)] rfl rfl ?_ ?_
            · intro W_ hW
              have S1 := S
              intro v_132 hF_131; replace hF_131 : RepV _ _ _ _ _ := hF_131
              replace S1 := S1.put (by decide : 50 < 106) (v_132)
              refine fill_nil S1 ?_; clear S1; intro a_ S1
              replace W := W.step hW
              have S0 := S.defers; replace S := S1; clear S1
              refine w_go S rfl (op_call (vs := [v_132]) S rfl cb12 rfl rfl rfl (c12 (Kx K w.heap.size [v_59.ownBlock, v_73.ownBlock, v_83.ownBlock, some b_6, v_2.ownBlock]) n W_ y_95 _ hF_131 et_101) ?_)
              rintro _ w_136 ⟨v_133, rfl, R_134, hb_135⟩; refine ⟨_, rfl, ?_⟩
              replace R_134 := RepV.back R_134 W
              clear S; intro a S
              obtain ⟨rfl, GR_134⟩ := RepV.int R_134
              refine wpList_nil ?_
              exact RPost.mk_ S rfl S0 ⟨rfl, GR_134⟩ (hb_135)
            refine RunAll.cons (eqv (v_2)) [] rfl rfl ?_ ?_
            · intro W_ hW
              have S1 := S
              refine fill_nil S1 ?_; clear S1; intro a_ S1
              replace R_3 := R_3.step hW
              have S0 := S.defers; replace S := S1; clear S1
              refine wl_pure (l' := [(52, v_2), (6, v_73), (5, v_59), (8, .int .i64 c_10), (7, v_83), (4, pB b_6), (3, v_2)]) S tys tys_ok 1 (by kernel_rfl) ?_; clear S; intro a S
              refine wpList_nil ?_
              exact RPost.mk_ S rfl S0 rfl (Below.refl _ _)
            refine RunAll.cons (isI .i64 c_10) [] rfl rfl ?_ ?_
            · intro W_ hW
              have S1 := S
              refine fill_nil S1 ?_; clear S1; intro a_ S1
              have S0 := S.defers; replace S := S1; clear S1
              refine wl_pure (l' := [(53, .int .i64 c_10), (6, v_73), (5, v_59), (8, .int .i64 c_10), (7, v_83), (4, pB b_6), (3, v_2)]) S tys tys_ok 1 (by kernel_rfl) ?_; clear S; intro a S
              refine wpList_nil ?_
              exact RPost.mk_ S rfl S0 ⟨rfl, G_11⟩ (Below.refl _ _)
            refine RunAll.cons (isEo gt1 (Kx K w.heap.size [v_59.ownBlock, v_73.ownBlock, v_83.ownBlock, some b_6, v_2.ownBlock]) y_106) [(eqv (v_2), 52), (isI .i64 c_10, 53)] rfl rfl ?_ ?_
            · intro W_ hW
              have S1 := S
              intro v_138 hF_137; obtain rfl : v_2 = v_138 := Eq.symm hF_137
              replace S1 := S1.put (by decide : 52 < 106) (v_2)
              rintro _ ⟨rfl, hF_139⟩
              replace S1 := S1.put (by decide : 53 < 106) (.int .i64 c_10)
              refine fill_nil S1 ?_; clear S1; intro a_ S1
              replace R_3 := R_3.step hW
              replace W := W.step hW
              have S0 := S.defers; replace S := S1; clear S1
              refine w_go S rfl (op_indexAddr_own S rfl ty24 rfl rfl rfl R_3 rfl ey_106 ?_)
              clear S; intro a g_141 H_143 R_142 S
              refine wpList_nil ?_
              exact RPost.mk_ S rfl S0 ⟨_, rfl, R_142, W.ownlt (o := v_2.ownBlock) (List.mem_of_getElem? (i := 4) rfl) H_143⟩ (Below.refl _ _)
            refine RunAll.cons (isRep gt1 (Kx K w.heap.size [v_59.ownBlock, v_73.ownBlock, v_83.ownBlock, some b_6, v_2.ownBlock]) y_106) [(isEo gt1 (Kx K w.heap.size [v_59.ownBlock, v_73.ownBlock, v_83.ownBlock, some b_6, v_2.ownBlock]) y_106, 54)] rfl rfl ?_ ?_
            · intro W_ hW
              have S1 := S
              rintro _ ⟨p_146, rfl, R_147, H_148⟩
              replace S1 := S1.put (by decide : 54 < 106) (.pointer (some p_146))
              refine fill_nil S1 ?_; clear S1; intro a_ S1
              have S0 := S.defers; replace S := S1; clear S1
              refine w_go S rfl (op_load (t := gt1) (x := y_106) S rfl ty32 rfl rfl rfl R_147 ?_)
              clear S; intro a v_149 R_150 S
              refine wpList_nil ?_
              exact RPost.mk_ S rfl S0 R_150 (Below.refl _ _)
            refine RunAll.cons (isI .i64 t_112) [(isRep gt1 (Kx K w.heap.size [v_59.ownBlock, v_73.ownBlock, v_83.ownBlock, some b_6, v_2.ownBlock]) y_106, 55)] rfl rfl ?_ ?_
            · intro W_ hW
              have S1 := S
              intro v_152 hF_151; replace hF_151 : RepV _ _ _ _ _ := hF_151
              replace S1 := S1.put (by decide : 55 < 106) (v_152)
              refine fill_nil S1 ?_; clear S1; intro a_ S1
              replace W := W.step hW
              have S0 := S.defers; replace S := S1; clear S1
              refine w_go S rfl (op_call (vs := [v_152]) S rfl cb13 rfl rfl rfl (c13 (Kx K w.heap.size [v_59.ownBlock, v_73.ownBlock, v_83.ownBlock, some b_6, v_2.ownBlock]) n W_ y_106 _ hF_151 et_112) ?_)
              rintro _ w_156 ⟨v_153, rfl, R_154, hb_155⟩; refine ⟨_, rfl, ?_⟩
              replace R_154 := RepV.back R_154 W
              clear S; intro a S
              obtain ⟨rfl, GR_154⟩ := RepV.int R_154
              refine wpList_nil ?_
              exact RPost.mk_ S rfl S0 ⟨rfl, GR_154⟩ (hb_155)
            refine RunAll.cons (eqv (.bool (t_101 != t_112))) [(isI .i64 t_101, 51), (isI .i64 t_112, 56)] rfl rfl ?_ ?_
            · intro W_ hW
              have S1 := S
              rintro _ ⟨rfl, hF_157⟩
              replace S1 := S1.put (by decide : 51 < 106) (.int .i64 t_101)
              rintro _ ⟨rfl, hF_159⟩
              replace S1 := S1.put (by decide : 56 < 106) (.int .i64 t_112)
              refine fill_nil S1 ?_; clear S1; intro a_ S1
              have S0 := S.defers; replace S := S1; clear S1
              refine wl_pure (l' := [(57, .bool (t_101 != t_112)), (56, .int .i64 t_112), (51, .int .i64 t_101), (6, v_73), (5, v_59), (8, .int .i64 c_10), (7, v_83), (4, pB b_6), (3, v_2)]) S tys tys_ok 1 (by kernel_rfl) ?_; clear S; intro a S
              refine wpList_nil ?_
              exact RPost.mk_ S rfl S0 rfl (Below.refl _ _)
            exact trivial
          intro w_161 hb_162
          refine EndE.some_ rfl ?_
          intro v_164 hF_163; obtain rfl : v_2 = v_164 := Eq.symm hF_163
          replace S := S.put (by decide : 47 < 106) (v_2)
          refine EndE.some_ rfl ?_
          rintro _ ⟨rfl, hF_165⟩
          replace S := S.put (by decide : 48 < 106) (.int .i64 c_10)
          refine EndE.some_ rfl ?_
          rintro _ ⟨p_169, rfl, R_170, H_171⟩
          replace S := S.put (by decide : 49 < 106) (.pointer (some p_169))
          refine EndE.some_ rfl ?_
          intro v_173 hF_172; replace hF_172 : RepV _ _ _ _ _ := hF_172
          replace S := S.put (by decide : 50 < 106) (v_173)
          refine EndE.some_ rfl ?_
          rintro _ ⟨rfl, hF_174⟩
          replace S := S.put (by decide : 51 < 106) (.int .i64 t_101)
          refine EndE.some_ rfl ?_
          intro v_177 hF_176; obtain rfl : v_2 = v_177 := Eq.symm hF_176
          replace S := S.put (by decide : 52 < 106) (v_2)
          refine EndE.some_ rfl ?_
          rintro _ ⟨rfl, hF_178⟩
          replace S := S.put (by decide : 53 < 106) (.int .i64 c_10)
          refine EndE.some_ rfl ?_
          rintro _ ⟨p_182, rfl, R_183, H_184⟩
          replace S := S.put (by decide : 54 < 106) (.pointer (some p_182))
          refine EndE.some_ rfl ?_
          intro v_186 hF_185; replace hF_185 : RepV _ _ _ _ _ := hF_185
          replace S := S.put (by decide : 55 < 106) (v_186)
          refine EndE.some_ rfl ?_
          rintro _ ⟨rfl, hF_187⟩
          replace S := S.put (by decide : 56 < 106) (.int .i64 t_112)
          refine EndE.some_ rfl ?_
          intro v_190 hF_189; obtain rfl : .bool (t_101 != t_112) = v_190 := Eq.symm hF_189
          replace S := S.put (by decide : 57 < 106) (.bool (t_101 != t_112))
          refine endE_nil S ?_; clear S; intro a S
          replace B_7 := B_7.step hb_162
          replace O_76 := O_76.step hb_162
          replace O_62 := O_62.step hb_162
          replace O_84 := O_84.step hb_162
          replace R_3 := R_3.step hb_162
          replace W := W.step hb_162
          refine then_n ?_
          replace S := S.sub (l' := [(57, .bool (t_101 != t_112)), (6, v_73), (5, v_59), (8, .int .i64 c_10), (7, v_83), (4, pB b_6), (3, v_2)]) (by exact ⟨rfl, rfl, rfl, rfl, rfl, rfl, rfl, trivial⟩)
          refine wp_cond_split (S.eval (show ev _ _ = some (.bool (t_101 != t_112)) from rfl)) ?_ ?_
          · intro hc
            rw [if_pos hc] at hl_41
            refine wp_seq ?_
            refine wp_region_lit ?_
            refine wl_pureK (l' := [(2, .bool false)]) S tys tys_ok 1 [2] (by kernel_rfl) ?_
            clear S; intro a S
            refine wpList_nil ?_
            refine then_n ?_
            refine wp_ret ?_
            refine blk_r ?_
            refine then_r ?_
            refine then_r ?_
            refine blk_r ?_
            refine then_r ?_
            refine then_r ?_
            obtain rfl := Option.some.inj hl_41
            obtain rfl := lr_inr h
            exact b_ret1 S rfl rfl ⟨_, rfl, RepV.mkBool, W.below⟩
          · intro hc
            rw [if_neg (Bool.eq_false_iff.1 hc)] at hl_41
            refine wp_skip ?_
            refine blk_n ?_
            refine then_n ?_
            replace S := S.sub (l' := [(6, v_73), (5, v_59), (8, .int .i64 c_10), (7, v_83), (4, pB b_6), (3, v_2)]) (by exact ⟨rfl, rfl, rfl, rfl, rfl, rfl, trivial⟩)
            refine wp_region_lit ?_
            refine wl_pure (l' := [(22, .int .i64 c_10), (6, v_73), (5, v_59), (8, .int .i64 c_10), (7, v_83), (4, pB b_6), (3, v_2)]) S tys tys_ok 1 (by kernel_rfl) ?_
            clear S; intro a S
            obtain ⟨x_191, ex_191, hl_41⟩ := bindS hl_41
            refine w_go S rfl (op_arith S .i64 (c_10 + 1) rfl (.inl rfl) rfl rfl rfl rfl ex_191 ?_)
            clear S; intro a S
            refine wl_pure (l' := [(8, .int .i64 x_191), (23, .int .i64 x_191), (22, .int .i64 c_10), (6, v_73), (5, v_59), (8, .int .i64 c_10), (7, v_83), (4, pB b_6), (3, v_2)]) S tys tys_ok 1 (by kernel_rfl) ?_
            clear S; intro a S
            refine wpList_nil ?_
            refine then_n ?_
            exact ⟨x_191, j_82, l_72, l_58, ⟨v_83, v_73, v_59, S.sub (by exact ⟨rfl, rfl, rfl, rfl, rfl, rfl, trivial⟩), W, (ckI_some ex_191).2.1, B_7, O_84, O_76.forget, O_62.forget, R_3, hl_41⟩⟩
        · intro hc
          rw [if_neg (Bool.eq_false_iff.1 hc)] at hl_41
          refine wp_exit ?_
          refine then_x ?_
          refine then_x ?_
          refine blk_hit ?_
          refine then_n ?_
          obtain rfl := Option.some.inj hl_41
          replace B_7 : Bx (.arr 128 (.int .i64)) 26 w_45 (Kx K w.heap.size [v_2.ownBlock, v_19.ownBlock, v_16.ownBlock, v_13.ownBlock, some b_6]) b_6 (List.replicate 128 (0 : Int)) := B_7.mv 4 rfl
          replace O_14 : Ow (.int .i64) 3 w_45 w.heap.size (Kx K w.heap.size [v_2.ownBlock, v_19.ownBlock, v_16.ownBlock, v_13.ownBlock, some b_6]) v_13 c_12 .none := O_14.mv 4 rfl
          replace O_17 : Ow (.int .i64) 3 w_45 w.heap.size (Kx K w.heap.size [v_2.ownBlock, v_19.ownBlock, v_16.ownBlock, v_13.ownBlock, some b_6]) v_16 c_15 .none := O_17.mv 4 rfl
          replace O_20 : Ow (.int .i64) 3 w_45 w.heap.size (Kx K w.heap.size [v_2.ownBlock, v_19.ownBlock, v_16.ownBlock, v_13.ownBlock, some b_6]) v_19 c_18 .none := O_20.mv 4 rfl
          replace R_3 : Ow gt1 32 w_45 w.heap.size (Kx K w.heap.size [v_2.ownBlock, v_19.ownBlock, v_16.ownBlock, v_13.ownBlock, some b_6]) v_2 t_1.xs t_1.cap := R_3.mv 4 rfl
          replace W : Wd w w_45 [v_2.ownBlock, v_19.ownBlock, v_16.ownBlock, v_13.ownBlock, some b_6] := W.mv 4 rfl
          replace B_7 : Bx (.arr 128 (.int .i64)) 26 w_45 (Kx K w.heap.size [some b_6, v_2.ownBlock, v_19.ownBlock, v_16.ownBlock, v_13.ownBlock]) b_6 (List.replicate 128 (0 : Int)) := B_7.mv 4 rfl
          replace O_14 : Ow (.int .i64) 3 w_45 w.heap.size (Kx K w.heap.size [some b_6, v_2.ownBlock, v_19.ownBlock, v_16.ownBlock, v_13.ownBlock]) v_13 c_12 .none := O_14.mv 4 rfl
          replace O_17 : Ow (.int .i64) 3 w_45 w.heap.size (Kx K w.heap.size [some b_6, v_2.ownBlock, v_19.ownBlock, v_16.ownBlock, v_13.ownBlock]) v_16 c_15 .none := O_17.mv 4 rfl
          replace O_20 : Ow (.int .i64) 3 w_45 w.heap.size (Kx K w.heap.size [some b_6, v_2.ownBlock, v_19.ownBlock, v_16.ownBlock, v_13.ownBlock]) v_19 c_18 .none := O_20.mv 4 rfl
          replace R_3 : Ow gt1 32 w_45 w.heap.size (Kx K w.heap.size [some b_6, v_2.ownBlock, v_19.ownBlock, v_16.ownBlock, v_13.ownBlock]) v_2 t_1.xs t_1.cap := R_3.mv 4 rfl
          replace W : Wd w w_45 [some b_6, v_2.ownBlock, v_19.ownBlock, v_16.ownBlock, v_13.ownBlock] := W.mv 4 rfl
          replace B_7 : Bx (.arr 128 (.int .i64)) 26 w_45 (Kx K w.heap.size [v_19.ownBlock, some b_6, v_2.ownBlock, v_16.ownBlock, v_13.ownBlock]) b_6 (List.replicate 128 (0 : Int)) := B_7.mv 2 rfl
          replace O_14 : Ow (.int .i64) 3 w_45 w.heap.size (Kx K w.heap.size [v_19.ownBlock, some b_6, v_2.ownBlock, v_16.ownBlock, v_13.ownBlock]) v_13 c_12 .none := O_14.mv 2 rfl
          replace O_17 : Ow (.int .i64) 3 w_45 w.heap.size (Kx K w.heap.size [v_19.ownBlock, some b_6, v_2.ownBlock, v_16.ownBlock, v_13.ownBlock]) v_16 c_15 .none := O_17.mv 2 rfl
          replace O_20 : Ow (.int .i64) 3 w_45 w.heap.size (Kx K w.heap.size [v_19.ownBlock, some b_6, v_2.ownBlock, v_16.ownBlock, v_13.ownBlock]) v_19 c_18 .none := O_20.mv 2 rfl
          replace R_3 : Ow gt1 32 w_45 w.heap.size (Kx K w.heap.size [v_19.ownBlock, some b_6, v_2.ownBlock, v_16.ownBlock, v_13.ownBlock]) v_2 t_1.xs t_1.cap := R_3.mv 2 rfl
          replace W : Wd w w_45 [v_19.ownBlock, some b_6, v_2.ownBlock, v_16.ownBlock, v_13.ownBlock] := W.mv 2 rfl
          replace B_7 : Bx (.arr 128 (.int .i64)) 26 w_45 (Kx K w.heap.size [v_16.ownBlock, v_19.ownBlock, some b_6, v_2.ownBlock, v_13.ownBlock]) b_6 (List.replicate 128 (0 : Int)) := B_7.mv 3 rfl
          replace O_14 : Ow (.int .i64) 3 w_45 w.heap.size (Kx K w.heap.size [v_16.ownBlock, v_19.ownBlock, some b_6, v_2.ownBlock, v_13.ownBlock]) v_13 c_12 .none := O_14.mv 3 rfl
          replace O_17 : Ow (.int .i64) 3 w_45 w.heap.size (Kx K w.heap.size [v_16.ownBlock, v_19.ownBlock, some b_6, v_2.ownBlock, v_13.ownBlock]) v_16 c_15 .none := O_17.mv 3 rfl
          replace O_20 : Ow (.int .i64) 3 w_45 w.heap.size (Kx K w.heap.size [v_16.ownBlock, v_19.ownBlock, some b_6, v_2.ownBlock, v_13.ownBlock]) v_19 c_18 .none := O_20.mv 3 rfl
          replace R_3 : Ow gt1 32 w_45 w.heap.size (Kx K w.heap.size [v_16.ownBlock, v_19.ownBlock, some b_6, v_2.ownBlock, v_13.ownBlock]) v_2 t_1.xs t_1.cap := R_3.mv 3 rfl
          replace W : Wd w w_45 [v_16.ownBlock, v_19.ownBlock, some b_6, v_2.ownBlock, v_13.ownBlock] := W.mv 3 rfl
          replace B_7 : Bx (.arr 128 (.int .i64)) 26 w_45 (Kx K w.heap.size [v_13.ownBlock, v_16.ownBlock, v_19.ownBlock, some b_6, v_2.ownBlock]) b_6 (List.replicate 128 (0 : Int)) := B_7.mv 4 rfl
          replace O_14 : Ow (.int .i64) 3 w_45 w.heap.size (Kx K w.heap.size [v_13.ownBlock, v_16.ownBlock, v_19.ownBlock, some b_6, v_2.ownBlock]) v_13 c_12 .none := O_14.mv 4 rfl
          replace O_17 : Ow (.int .i64) 3 w_45 w.heap.size (Kx K w.heap.size [v_13.ownBlock, v_16.ownBlock, v_19.ownBlock, some b_6, v_2.ownBlock]) v_16 c_15 .none := O_17.mv 4 rfl
          replace O_20 : Ow (.int .i64) 3 w_45 w.heap.size (Kx K w.heap.size [v_13.ownBlock, v_16.ownBlock, v_19.ownBlock, some b_6, v_2.ownBlock]) v_19 c_18 .none := O_20.mv 4 rfl
          replace R_3 : Ow gt1 32 w_45 w.heap.size (Kx K w.heap.size [v_13.ownBlock, v_16.ownBlock, v_19.ownBlock, some b_6, v_2.ownBlock]) v_2 t_1.xs t_1.cap := R_3.mv 4 rfl
          replace W : Wd w w_45 [v_13.ownBlock, v_16.ownBlock, v_19.ownBlock, some b_6, v_2.ownBlock] := W.mv 4 rfl
          exact ⟨_, rfl, ⟨v_19, v_16, v_13, S.sub (by exact ⟨rfl, rfl, rfl, rfl, trivial⟩), W, B_7, R_3, O_20, O_17, O_14⟩⟩
  clear S W; rintro a w_192 ⟨s_33, rfl, v_34, v_36, v_38, S, W, B_7, R_3, O_35, O_37, O_39⟩
  replace h := lr_inl h; try dsimp only at h
  refine then_n ?_
  refine wp_seq ?_
  refine wp_region_lit ?_
  refine wl_pure (l' := [(59, v_2), (3, v_2), (5, v_34), (6, v_36), (7, v_38)]) S tys tys_ok 1 (by kernel_rfl) ?_
  clear S; intro a S
  have R_193 : RepV (.sl gt1) w_192 (Kx K w.heap.size [v_38.ownBlock, v_36.ownBlock, v_34.ownBlock, some b_6]) v_2 (⟨t_1.xs, t_1.cap⟩ : Sl (Int × Int × Bool × Bool × Bool × Bool × Int)) := R_3.pubAt W 4 rfl
  replace B_7 : Bx (.arr 128 (.int .i64)) 26 w_192 (Kx K w.heap.size [v_38.ownBlock, v_36.ownBlock, v_34.ownBlock, some b_6]) b_6 (List.replicate 128 (0 : Int)) := B_7.lessAt 4
  replace O_35 : Ow (.int .i64) 3 w_192 w.heap.size (Kx K w.heap.size [v_38.ownBlock, v_36.ownBlock, v_34.ownBlock, some b_6]) v_34 s_33.1 .none := O_35.lessAt 4
  replace O_37 : Ow (.int .i64) 3 w_192 w.heap.size (Kx K w.heap.size [v_38.ownBlock, v_36.ownBlock, v_34.ownBlock, some b_6]) v_36 s_33.2.1 .none := O_37.lessAt 4
  replace O_39 : Ow (.int .i64) 3 w_192 w.heap.size (Kx K w.heap.size [v_38.ownBlock, v_36.ownBlock, v_34.ownBlock, some b_6]) v_38 s_33.2.2 .none := O_39.lessAt 4
  replace W : Wd w w_192 [v_38.ownBlock, v_36.ownBlock, v_34.ownBlock, some b_6] := W.lessAt 4
  obtain ⟨t_194, et_194, h⟩ := bindS h
  refine w_go S rfl (op_call (vs := [v_2]) S rfl cb14 rfl rfl rfl (c14 (Kx K w.heap.size [v_38.ownBlock, v_36.ownBlock, v_34.ownBlock, some b_6]) n w_192 (⟨t_1.xs, t_1.cap⟩ : Sl (Int × Int × Bool × Bool × Bool × Bool × Int)) _ R_193 et_194) ?_)
  rintro _ w_200 ⟨v_195, v_196, rfl, R_197, R_198, hb_199⟩; refine ⟨_, rfl, ?_⟩
  have NO_ := newO_of R_197 (Nat.le_refl _) hb_199
  replace R_197 := Ow.backO R_197 W
  replace R_198 := RepV.backO R_198 W
  clear S; intro a S
  replace R_193 := R_193.newO NO_
  replace B_7 := B_7.newO NO_
  replace O_35 := O_35.newO NO_
  replace O_37 := O_37.newO NO_
  replace O_39 := O_39.newO NO_
  replace W := W.newO NO_
  clear NO_
  obtain ⟨rfl, GR_198⟩ := RepV.int R_198
  refine wl_pureK (l' := [(11, .int .i64 t_194.2), (10, v_195), (3, v_2), (5, v_34), (6, v_36), (7, v_38)]) S tys tys_ok 5 [11, 10, 3, 5, 6, 7] (by kernel_rfl) ?_
  clear S; intro a S
  refine wpList_nil ?_
  refine then_n ?_
  refine wp_seq ?_
  refine wp_region_lit ?_
  refine wl_pure (l' := [(64, v_2), (11, .int .i64 t_194.2), (10, v_195), (3, v_2), (5, v_34), (6, v_36), (7, v_38)]) S tys tys_ok 1 (by kernel_rfl) ?_
  clear S; intro a S
  obtain ⟨t_201, et_201, h⟩ := bindS h
  refine w_go S rfl (op_call (vs := [v_2]) S rfl cb15 rfl rfl rfl (c15 (Kx K w.heap.size [v_195.ownBlock, v_38.ownBlock, v_36.ownBlock, v_34.ownBlock, some b_6]) n w_200 (⟨t_1.xs, t_1.cap⟩ : Sl (Int × Int × Bool × Bool × Bool × Bool × Int)) _ R_193 et_201) ?_)
  rintro _ w_207 ⟨v_202, v_203, rfl, R_204, R_205, hb_206⟩; refine ⟨_, rfl, ?_⟩
  have NO_ := newO_of R_204 (Nat.le_refl _) hb_206
  replace R_204 := Ow.backO R_204 W
  replace R_205 := RepV.backO R_205 W
  clear S; intro a S
  replace R_193 := R_193.newO NO_
  replace B_7 := B_7.newO NO_
  replace O_35 := O_35.newO NO_
  replace O_37 := O_37.newO NO_
  replace O_39 := O_39.newO NO_
  replace R_197 := R_197.newO NO_
  replace W := W.newO NO_
  clear NO_
  obtain ⟨rfl, GR_205⟩ := RepV.int R_205
  refine wl_pureK (l' := [(13, .int .i64 t_201.2), (12, v_202), (11, .int .i64 t_194.2), (10, v_195), (3, v_2), (5, v_34), (6, v_36), (7, v_38)]) S tys tys_ok 5 [13, 12, 11, 10, 3, 5, 6, 7] (by kernel_rfl) ?_
  clear S; intro a S
  refine wpList_nil ?_
  refine then_n ?_
  refine wp_seq ?_
  refine wp_region_lit ?_
  refine wl_pure (l' := [(69, v_2), (13, .int .i64 t_201.2), (12, v_202), (11, .int .i64 t_194.2), (10, v_195), (3, v_2), (5, v_34), (6, v_36), (7, v_38)]) S tys tys_ok 1 (by kernel_rfl) ?_
  clear S; intro a S
  obtain ⟨t_208, et_208, h⟩ := bindS h
  refine w_go S rfl (op_call (vs := [v_2]) S rfl cb16 rfl rfl rfl (c16 (Kx K w.heap.size [v_202.ownBlock, v_195.ownBlock, v_38.ownBlock, v_36.ownBlock, v_34.ownBlock, some b_6]) n w_207 (⟨t_1.xs, t_1.cap⟩ : Sl (Int × Int × Bool × Bool × Bool × Bool × Int)) _ R_193 et_208) ?_)
  rintro _ w_214 ⟨v_209, v_210, rfl, R_211, R_212, hb_213⟩; refine ⟨_, rfl, ?_⟩
  replace R_211 := RepV.back R_211 W
  replace R_212 := RepV.back R_212 W
  clear S; intro a S
  replace R_193 := R_193.step hb_213
  replace B_7 := B_7.step hb_213
  replace O_35 := O_35.step hb_213
  replace O_37 := O_37.step hb_213
  replace O_39 := O_39.step hb_213
  replace R_197 := R_197.step hb_213
  replace R_204 := R_204.step hb_213
  replace W := W.step hb_213
  obtain ⟨rfl, GR_212⟩ := RepV.int R_212
  refine wl_pureK (l' := [(15, .int .i64 t_208.2), (14, v_209), (13, .int .i64 t_201.2), (12, v_202), (11, .int .i64 t_194.2), (10, v_195), (3, v_2), (5, v_34), (6, v_36), (7, v_38)]) S tys tys_ok 5 [15, 14, 13, 12, 11, 10, 3, 5, 6, 7] (by kernel_rfl) ?_
  clear S; intro a S
  refine wpList_nil ?_
  refine then_n ?_
  refine wp_seq ?_
  refine wp_region_lit ?_
  refine wl_pure (l' := [(73, v_2), (15, .int .i64 t_208.2), (14, v_209), (13, .int .i64 t_201.2), (12, v_202), (11, .int .i64 t_194.2), (10, v_195), (3, v_2), (5, v_34), (6, v_36), (7, v_38)]) S tys tys_ok 1 (by kernel_rfl) ?_
  clear S; intro a S
  obtain ⟨t_215, et_215, h⟩ := bindS h
  refine w_go S rfl (op_call (vs := [v_2]) S rfl cb17 rfl rfl rfl (c17 (Kx K w.heap.size [v_202.ownBlock, v_195.ownBlock, v_38.ownBlock, v_36.ownBlock, v_34.ownBlock, some b_6]) n w_214 (⟨t_1.xs, t_1.cap⟩ : Sl (Int × Int × Bool × Bool × Bool × Bool × Int)) _ R_193 et_215) ?_)
  rintro _ w_219 ⟨v_216, rfl, R_217, hb_218⟩; refine ⟨_, rfl, ?_⟩
  replace R_217 := RepV.back R_217 W
  clear S; intro a S
  replace R_193 := R_193.step hb_218
  replace R_211 := R_211.step hb_218
  replace B_7 := B_7.step hb_218
  replace O_35 := O_35.step hb_218
  replace O_37 := O_37.step hb_218
  replace O_39 := O_39.step hb_218
  replace R_197 := R_197.step hb_218
  replace R_204 := R_204.step hb_218
  replace W := W.step hb_218
  obtain ⟨rfl, GR_217⟩ := RepV.int R_217
  refine wl_pureK (l' := [(76, .bool (t_215 == 0)), (15, .int .i64 t_208.2), (14, v_209), (13, .int .i64 t_201.2), (12, v_202), (11, .int .i64 t_194.2), (10, v_195), (5, v_34), (6, v_36), (7, v_38)]) S tys tys_ok 2 [76, 15, 14, 13, 12, 11, 10, 5, 6, 7] (by kernel_rfl) ?_
  clear S; intro a S
  obtain ⟨q_220, eq_220, h⟩ := bindS h
  refine seg 3 (fun a_ w_ => w_219 = w_ ∧ St 106 a_ [(79, .bool q_220), (15, .int .i64 t_208.2), (14, v_209), (13, .int .i64 t_201.2), (12, v_202), (10, v_195), (5, v_34), (6, v_36), (7, v_38)]) ?_ ?_
  · by_cases hc : (t_215 == 0) = true
    · rw [if_pos hc] at eq_220; rw [hc] at S
      refine wl_pureK (l' := [(79, .bool (t_194.2 == 0)), (15, .int .i64 t_208.2), (14, v_209), (13, .int .i64 t_201.2), (12, v_202), (10, v_195), (5, v_34), (6, v_36), (7, v_38)]) S tys tys_ok 3 [79, 15, 14, 13, 12, 10, 5, 6, 7] (by kernel_rfl) ?_
      clear S; intro a S
      obtain rfl := Option.some.inj eq_220
      exact ⟨rfl, S.sub (by exact ⟨rfl, rfl, rfl, rfl, rfl, rfl, rfl, rfl, rfl, trivial⟩)⟩
    · rw [if_neg hc] at eq_220; rw [show (t_215 == 0) = false from Bool.eq_false_iff.2 hc] at S
      refine wl_pureK (l' := [(79, .bool false), (15, .int .i64 t_208.2), (14, v_209), (13, .int .i64 t_201.2), (12, v_202), (10, v_195), (5, v_34), (6, v_36), (7, v_38)]) S tys tys_ok 3 [79, 15, 14, 13, 12, 10, 5, 6, 7] (by kernel_rfl) ?_
      clear S; intro a S
      obtain rfl := Option.some.inj eq_220
      exact ⟨rfl, S.sub (by exact ⟨rfl, rfl, rfl, rfl, rfl, rfl, rfl, rfl, rfl, trivial⟩)⟩
  clear S eq_220; rintro a _ ⟨rfl, S⟩
  refine wl_pure (l' := [(80, .bool q_220), (79, .bool q_220), (15, .int .i64 t_208.2), (14, v_209), (13, .int .i64 t_201.2), (12, v_202), (10, v_195), (5, v_34), (6, v_36), (7, v_38)]) S tys tys_ok 1 (by kernel_rfl) ?_
  clear S; intro a S
  obtain ⟨q_221, eq_221, h⟩ := bindS h
  refine seg 3 (fun a_ w_ => w_219 = w_ ∧ St 106 a_ [(83, .bool q_221), (15, .int .i64 t_208.2), (14, v_209), (12, v_202), (10, v_195), (5, v_34), (6, v_36), (7, v_38)]) ?_ ?_
  · by_cases hc : q_220 = true
    · rw [if_pos hc] at eq_221; rw [hc] at S
      refine wl_pureK (l' := [(83, .bool (t_201.2 == 0)), (15, .int .i64 t_208.2), (14, v_209), (12, v_202), (10, v_195), (5, v_34), (6, v_36), (7, v_38)]) S tys tys_ok 3 [83, 15, 14, 12, 10, 5, 6, 7] (by kernel_rfl) ?_
      clear S; intro a S
      obtain rfl := Option.some.inj eq_221
      exact ⟨rfl, S.sub (by exact ⟨rfl, rfl, rfl, rfl, rfl, rfl, rfl, rfl, trivial⟩)⟩
    · rw [if_neg hc] at eq_221; rw [show q_220 = false from Bool.eq_false_iff.2 hc] at S
      refine wl_pureK (l' := [(83, .bool false), (15, .int .i64 t_208.2), (14, v_209), (12, v_202), (10, v_195), (5, v_34), (6, v_36), (7, v_38)]) S tys tys_ok 3 [83, 15, 14, 12, 10, 5, 6, 7] (by kernel_rfl) ?_
      clear S; intro a S
      obtain rfl := Option.some.inj eq_221
      exact ⟨rfl, S.sub (by exact ⟨rfl, rfl, rfl, rfl, rfl, rfl, rfl, rfl, trivial⟩)⟩
  clear S eq_221; rintro a _ ⟨rfl, S⟩
  refine wl_pure (l' := [(84, .bool q_221), (83, .bool q_221), (15, .int .i64 t_208.2), (14, v_209), (12, v_202), (10, v_195), (5, v_34), (6, v_36), (7, v_38)]) S tys tys_ok 1 (by kernel_rfl) ?_
  clear S; intro a S
  obtain ⟨q_222, eq_222, h⟩ := bindS h
  refine seg 3 (fun a_ w_ => w_219 = w_ ∧ St 106 a_ [(87, .bool q_222), (14, v_209), (12, v_202), (10, v_195), (5, v_34), (6, v_36), (7, v_38)]) ?_ ?_
  · by_cases hc : q_221 = true
    · rw [if_pos hc] at eq_222; rw [hc] at S
      refine wl_pureK (l' := [(87, .bool (t_208.2 == 0)), (14, v_209), (12, v_202), (10, v_195), (5, v_34), (6, v_36), (7, v_38)]) S tys tys_ok 3 [87, 14, 12, 10, 5, 6, 7] (by kernel_rfl) ?_
      clear S; intro a S
      obtain rfl := Option.some.inj eq_222
      exact ⟨rfl, S.sub (by exact ⟨rfl, rfl, rfl, rfl, rfl, rfl, rfl, trivial⟩)⟩
    · rw [if_neg hc] at eq_222; rw [show q_221 = false from Bool.eq_false_iff.2 hc] at S
      refine wl_pureK (l' := [(87, .bool false), (14, v_209), (12, v_202), (10, v_195), (5, v_34), (6, v_36), (7, v_38)]) S tys tys_ok 3 [87, 14, 12, 10, 5, 6, 7] (by kernel_rfl) ?_
      clear S; intro a S
      obtain rfl := Option.some.inj eq_222
      exact ⟨rfl, S.sub (by exact ⟨rfl, rfl, rfl, rfl, rfl, rfl, rfl, trivial⟩)⟩
  clear S eq_222; rintro a _ ⟨rfl, S⟩
  refine wl_pure (l' := [(88, .bool q_222), (87, .bool q_222), (14, v_209), (12, v_202), (10, v_195), (5, v_34), (6, v_36), (7, v_38)]) S tys tys_ok 1 (by kernel_rfl) ?_
  clear S; intro a S
  obtain ⟨q_223, eq_223, h⟩ := bindS h
  refine seg 4 (fun a_ w_ => St 106 a_ [(92, .bool q_223), (14, v_209), (12, v_202), (6, v_36), (7, v_38)] ∧ Wd w w_ [v_202.ownBlock, v_195.ownBlock, v_38.ownBlock, v_36.ownBlock, v_34.ownBlock, some b_6] ∧ RepV (.sl (.int .i64)) w_ (Kx K w.heap.size [v_202.ownBlock, v_195.ownBlock, v_38.ownBlock, v_36.ownBlock, v_34.ownBlock, some b_6]) v_209 t_208.1 ∧ Bx (.arr 128 (.int .i64)) 26 w_ (Kx K w.heap.size [v_202.ownBlock, v_195.ownBlock, v_38.ownBlock, v_36.ownBlock, v_34.ownBlock, some b_6]) b_6 (List.replicate 128 (0 : Int)) ∧ Ow (.int .i64) 3 w_ w.heap.size (Kx K w.heap.size [v_202.ownBlock, v_195.ownBlock, v_38.ownBlock, v_36.ownBlock, v_34.ownBlock, some b_6]) v_202 t_201.1.xs t_201.1.cap ∧ Ow (.int .i64) 3 w_ w.heap.size (Kx K w.heap.size [v_202.ownBlock, v_195.ownBlock, v_38.ownBlock, v_36.ownBlock, v_34.ownBlock, some b_6]) v_36 s_33.2.1 .none ∧ Ow (.int .i64) 3 w_ w.heap.size (Kx K w.heap.size [v_202.ownBlock, v_195.ownBlock, v_38.ownBlock, v_36.ownBlock, v_34.ownBlock, some b_6]) v_38 s_33.2.2 .none) ?_ ?_
  · by_cases hc : q_222 = true
    · rw [if_pos hc] at eq_223; rw [hc] at S
      refine wl_pureK (l' := [(90, v_34), (89, v_195), (88, .bool true), (14, v_209), (12, v_202), (6, v_36), (7, v_38)]) S tys tys_ok 2 [90, 89, 88, 14, 12, 6, 7] (by kernel_rfl) ?_
      clear S; intro a S
      obtain ⟨t_224, et_224, eq_223⟩ := bindS eq_223
      refine w_go S rfl (op_call (vs := [v_195, v_34]) S rfl cb18 rfl rfl rfl (c18 (Kx K w.heap.size []) n w_219 (⟨t_194.1.xs, t_194.1.cap⟩ : Sl (Int)) _ (Ow.read R_197) (⟨s_33.1, .none⟩ : Sl (Int)) _ (Ow.read O_35) et_224) ?_)
      rintro _ w_228 ⟨v_225, rfl, R_226, hb_227⟩; refine ⟨_, rfl, ?_⟩
      clear S; intro a S
      replace R_211 := R_211.step hb_227
      replace B_7 := B_7.step hb_227
      replace R_204 := R_204.step hb_227
      replace O_37 := O_37.step hb_227
      replace O_39 := O_39.step hb_227
      replace R_197 := R_197.step hb_227
      replace O_35 := O_35.step hb_227
      replace W := W.step hb_227
      obtain rfl := RepV.bool R_226
      refine wl_pureK (l' := [(92, .bool t_224), (14, v_209), (12, v_202), (6, v_36), (7, v_38)]) S tys tys_ok 1 [92, 14, 12, 6, 7] (by kernel_rfl) ?_
      clear S; intro a S
      obtain rfl := Option.some.inj eq_223
      exact ⟨S.sub (by exact ⟨rfl, rfl, rfl, rfl, rfl, trivial⟩), W, R_211, B_7, R_204, O_37, O_39⟩
    · rw [if_neg hc] at eq_223; rw [show q_222 = false from Bool.eq_false_iff.2 hc] at S
      refine wl_pureK (l' := [(92, .bool false), (14, v_209), (12, v_202), (6, v_36), (7, v_38)]) S tys tys_ok 4 [92, 14, 12, 6, 7] (by kernel_rfl) ?_
      clear S; intro a S
      obtain rfl := Option.some.inj eq_223
      exact ⟨S.sub (by exact ⟨rfl, rfl, rfl, rfl, rfl, trivial⟩), W, R_211, B_7, R_204, O_37, O_39⟩
  clear S W eq_223; rintro a w_229 ⟨S, W, R_211, B_7, R_204, O_37, O_39⟩
  refine wl_pure (l' := [(93, .bool q_223), (92, .bool q_223), (14, v_209), (12, v_202), (6, v_36), (7, v_38)]) S tys tys_ok 1 (by kernel_rfl) ?_
  clear S; intro a S
  obtain ⟨q_230, eq_230, h⟩ := bindS h
  refine seg 4 (fun a_ w_ => St 106 a_ [(97, .bool q_230), (14, v_209), (7, v_38)] ∧ Wd w w_ [v_202.ownBlock, v_195.ownBlock, v_38.ownBlock, v_36.ownBlock, v_34.ownBlock, some b_6] ∧ RepV (.sl (.int .i64)) w_ (Kx K w.heap.size [v_202.ownBlock, v_195.ownBlock, v_38.ownBlock, v_36.ownBlock, v_34.ownBlock, some b_6]) v_209 t_208.1 ∧ Bx (.arr 128 (.int .i64)) 26 w_ (Kx K w.heap.size [v_202.ownBlock, v_195.ownBlock, v_38.ownBlock, v_36.ownBlock, v_34.ownBlock, some b_6]) b_6 (List.replicate 128 (0 : Int)) ∧ Ow (.int .i64) 3 w_ w.heap.size (Kx K w.heap.size [v_202.ownBlock, v_195.ownBlock, v_38.ownBlock, v_36.ownBlock, v_34.ownBlock, some b_6]) v_38 s_33.2.2 .none) ?_ ?_
  · by_cases hc : q_223 = true
    · rw [if_pos hc] at eq_230; rw [hc] at S
      refine wl_pureK (l' := [(95, v_36), (94, v_202), (93, .bool true), (14, v_209), (7, v_38)]) S tys tys_ok 2 [95, 94, 93, 14, 7] (by kernel_rfl) ?_
      clear S; intro a S
      obtain ⟨t_231, et_231, eq_230⟩ := bindS eq_230
      refine w_go S rfl (op_call (vs := [v_202, v_36]) S rfl cb18 rfl rfl rfl (c18 (Kx K w.heap.size []) n w_229 (⟨t_201.1.xs, t_201.1.cap⟩ : Sl (Int)) _ (Ow.read R_204) (⟨s_33.2.1, .none⟩ : Sl (Int)) _ (Ow.read O_37) et_231) ?_)
      rintro _ w_235 ⟨v_232, rfl, R_233, hb_234⟩; refine ⟨_, rfl, ?_⟩
      clear S; intro a S
      replace R_211 := R_211.step hb_234
      replace B_7 := B_7.step hb_234
      replace O_39 := O_39.step hb_234
      replace R_204 := R_204.step hb_234
      replace O_37 := O_37.step hb_234
      replace W := W.step hb_234
      obtain rfl := RepV.bool R_233
      refine wl_pureK (l' := [(97, .bool t_231), (14, v_209), (7, v_38)]) S tys tys_ok 1 [97, 14, 7] (by kernel_rfl) ?_
      clear S; intro a S
      obtain rfl := Option.some.inj eq_230
      exact ⟨S.sub (by exact ⟨rfl, rfl, rfl, trivial⟩), W, R_211, B_7, O_39⟩
    · rw [if_neg hc] at eq_230; rw [show q_223 = false from Bool.eq_false_iff.2 hc] at S
      refine wl_pureK (l' := [(97, .bool false), (14, v_209), (7, v_38)]) S tys tys_ok 4 [97, 14, 7] (by kernel_rfl) ?_
      clear S; intro a S
      obtain rfl := Option.some.inj eq_230
      exact ⟨S.sub (by exact ⟨rfl, rfl, rfl, trivial⟩), W, R_211, B_7, O_39⟩
  clear S W eq_230; rintro a w_236 ⟨S, W, R_211, B_7, O_39⟩
  refine wl_pure (l' := [(98, .bool q_230), (97, .bool q_230), (14, v_209), (7, v_38)]) S tys tys_ok 1 (by kernel_rfl) ?_
  clear S; intro a S
  obtain ⟨q_237, eq_237, h⟩ := bindS h
  refine seg 4 (fun a_ w_ => St 106 a_ [(102, .bool q_237)] ∧ Wd w w_ [v_202.ownBlock, v_195.ownBlock, v_38.ownBlock, v_36.ownBlock, v_34.ownBlock, some b_6] ∧ Bx (.arr 128 (.int .i64)) 26 w_ (Kx K w.heap.size [v_202.ownBlock, v_195.ownBlock, v_38.ownBlock, v_36.ownBlock, v_34.ownBlock, some b_6]) b_6 (List.replicate 128 (0 : Int))) ?_ ?_
  · by_cases hc : q_230 = true
    · rw [if_pos hc] at eq_237; rw [hc] at S
      refine wl_pureK (l' := [(100, v_38), (99, v_209), (98, .bool true)]) S tys tys_ok 2 [100, 99, 98] (by kernel_rfl) ?_
      clear S; intro a S
      obtain ⟨t_238, et_238, eq_237⟩ := bindS eq_237
      refine w_go S rfl (op_call (vs := [v_209, v_38]) S rfl cb18 rfl rfl rfl (c18 (Kx K w.heap.size []) n w_236 t_208.1 _ R_211.out (⟨s_33.2.2, .none⟩ : Sl (Int)) _ (Ow.read O_39) et_238) ?_)
      rintro _ w_242 ⟨v_239, rfl, R_240, hb_241⟩; refine ⟨_, rfl, ?_⟩
      clear S; intro a S
      replace R_211 := R_211.step hb_241
      replace B_7 := B_7.step hb_241
      replace O_39 := O_39.step hb_241
      replace W := W.step hb_241
      obtain rfl := RepV.bool R_240
      refine wl_pureK (l' := [(102, .bool t_238)]) S tys tys_ok 1 [102] (by kernel_rfl) ?_
      clear S; intro a S
      obtain rfl := Option.some.inj eq_237
      exact ⟨S.sub (by exact ⟨rfl, trivial⟩), W, B_7⟩
    · rw [if_neg hc] at eq_237; rw [show q_230 = false from Bool.eq_false_iff.2 hc] at S
      refine wl_pureK (l' := [(102, .bool false)]) S tys tys_ok 4 [102] (by kernel_rfl) ?_
      clear S; intro a S
      obtain rfl := Option.some.inj eq_237
      exact ⟨S.sub (by exact ⟨rfl, trivial⟩), W, B_7⟩
  clear S W eq_237; rintro a w_243 ⟨S, W, B_7⟩
  refine wl_pure (l' := [(103, .bool q_237), (102, .bool q_237)]) S tys tys_ok 1 (by kernel_rfl) ?_
  clear S; intro a S
  obtain ⟨q_244, eq_244, h⟩ := bindS h
  refine seg 2 (fun a_ w_ => St 106 a_ [(105, .bool q_244)] ∧ Wd w w_ [v_202.ownBlock, v_195.ownBlock, v_38.ownBlock, v_36.ownBlock, v_34.ownBlock, some b_6] ∧ Bx (.arr 128 (.int .i64)) 26 w_ (Kx K w.heap.size [v_202.ownBlock, v_195.ownBlock, v_38.ownBlock, v_36.ownBlock, v_34.ownBlock, some b_6]) b_6 (List.replicate 128 (0 : Int))) ?_ ?_
  · by_cases hc : q_237 = true
    · rw [if_pos hc] at eq_244; rw [hc] at S
      obtain ⟨t_245, et_245, eq_244⟩ := bindS eq_244
      refine w_go S rfl (op_call (vs := []) S rfl cb19 rfl rfl rfl (c19 (Kx K w.heap.size [v_202.ownBlock, v_195.ownBlock, v_38.ownBlock, v_36.ownBlock, v_34.ownBlock, some b_6]) n w_243  et_245) ?_)
      rintro _ w_249 ⟨v_246, rfl, R_247, hb_248⟩; refine ⟨_, rfl, ?_⟩
      replace R_247 := RepV.back R_247 W
      clear S; intro a S
      replace B_7 := B_7.step hb_248
      replace W := W.step hb_248
      obtain rfl := RepV.bool R_247
      refine wl_pureK (l' := [(105, .bool t_245)]) S tys tys_ok 1 [105] (by kernel_rfl) ?_
      clear S; intro a S
      obtain rfl := Option.some.inj eq_244
      exact ⟨S.sub (by exact ⟨rfl, trivial⟩), W, B_7⟩
    · rw [if_neg hc] at eq_244; rw [show q_237 = false from Bool.eq_false_iff.2 hc] at S
      refine wl_pureK (l' := [(105, .bool false)]) S tys tys_ok 2 [105] (by kernel_rfl) ?_
      clear S; intro a S
      obtain rfl := Option.some.inj eq_244
      exact ⟨S.sub (by exact ⟨rfl, trivial⟩), W, B_7⟩
  clear S W eq_244; rintro a w_250 ⟨S, W, B_7⟩
  refine wl_pure (l' := [(2, .bool q_244), (105, .bool q_244)]) S tys tys_ok 1 (by kernel_rfl) ?_
  clear S; intro a S
  refine wpList_nil ?_
  refine then_n ?_
  replace S := S.sub (l' := [(2, .bool q_244)]) (by exact ⟨rfl, trivial⟩)
  refine wp_ret ?_
  obtain rfl := Option.some.inj h
  exact b_ret1 S rfl rfl ⟨_, rfl, RepV.mkBool, W.below⟩

end Go.Proofs.Ytnelgpgmggcdcaa
