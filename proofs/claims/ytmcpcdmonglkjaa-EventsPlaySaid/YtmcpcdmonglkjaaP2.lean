/- Functions of the program, as plain data. -/
import Derived.Test.YtmcpcdmonglkjaaP1
set_option linter.unusedVariables false
set_option linter.unusedSimpArgs false
namespace Go.Proofs.Ytmcpcdmonglkjaa
open Go.RowKit

def p10_l1 (n : Nat) (x0 : Sl ((Sl (Int)) × Int × Int)) : Nat → (Int) → (List Int) → Option (((List Int)) ⊕ ((Int)))
 | 0, _, _ => .none
 | m + 1, c_15, c_17 => if (decide (c_15 < (lenI x0))) then ((idx x0.xs c_15).bind fun y_26 => (p32 n y_26.1).bind fun t_40 => (if (!t_40) = false then some (decide (y_26.2.1 < 1)) else some true).bind fun q_45 => (if q_45 = false then some (decide (y_26.2.1 > 3)) else some true).bind fun q_49 => (if q_49 = false then (p33 n y_26.2.1 y_26.2.2).bind fun t_59 => some (!t_59) else some true).bind fun q_53 => (if q_53 = false then (slI x0 0 c_15).bind fun s_68 => (p34 n s_68 y_26.1).bind fun t_71 => some (!t_71) else some true).bind fun q_64 => if q_64 then (some (.inr 1)) else ((if (decide (c_15 > 0)) = true then ((ckI .i64 (c_15 - 1)).bind fun x_371 => (idx x0.xs x_371).bind fun y_372 => (p35 n y_372.1 y_26.1).bind fun t_380 => (if (decide (t_380 ≥ 0)) = true then (some (true, c_17)) else ((if (y_26.2.1 == 2) = true then ((p36 n c_17 y_26.2.2).bind fun t_421 => some ((!t_421.1), t_421.2)) else (some (false, c_17)))))) else ((if (y_26.2.1 == 2) = true then ((p36 n c_17 y_26.2.2).bind fun t_546 => some ((!t_546.1), t_546.2)) else (some (false, c_17)))))).bind fun (j_367 : (Bool) × (List Int)) => if j_367.1 then (some (.inr 1)) else (ckI .i64 (c_15 + 1)).bind fun x_571 => p10_l1 n x0 m x_571 j_367.2) else some (.inl c_17)
def p10 (n : Nat) (x0 : Sl ((Sl (Int)) × Int × Int)) : Option ((Int)) :=
 if (decide ((lenI x0) > 127)) then (some 3) else (p31 n).bind fun t_2 => (p10_l1 n x0 n 0 t_2).bind fun (y_21 : ((List Int)) ⊕ ((Int))) => lrK y_21 some fun (s_22 : (List Int)) => some 0
set_option maxHeartbeats 4000000 in
set_option maxRecDepth 100000 in
/-- plugboard/events.Check -/
theorem c10 (K : Nat → Prop) (n : Nat) (w : World) (x0 : Sl ((Sl (Int)) × Int × Int)) (v0 : Value) (R0 : RepV (.sl gt0) w K v0 x0) {r : (Int)} (h : p10 n x0 = some r) :
  Calls Try.prog 10 #[v0] w (Ret1 (.int .i64) w (Kx K w.heap.size []) r) := by
 refine enter (args := [v0]) Try.func10 rfl 75 rfl rfl fun a S => ?_
 have W := Wd.start w
 replace R0 := R0.arg
 unfold p10 at h
 replace S : St 75 a [(0, v0)] := S
 refine wp_seq ?_
 refine wp_region_lit ?_
 refine wl_pure (l' := [(2, .int .i64 0), (0, v0)]) S tys tys_ok 1 (by kernel_rfl) ?_
 clear S; intro a S
 refine wpList_nil ?_
 refine then_n ?_
 replace S := S.sub (l' := [(0, v0)]) (by exact ⟨rfl, trivial⟩)
 refine wp_seq ?_
 refine wp_seq ?_
 refine wp_region_lit ?_
 refine wl_pure (l' := [(6, v0), (0, v0)]) S tys tys_ok 1 (by kernel_rfl) ?_
 clear S; intro a S
 refine w_go S rfl (op_len (K := _) S rfl ty23 rfl rfl rfl R0 ?_)
 clear S; intro a G_1 S
 refine wl_pure (l' := [(8, .bool (decide ((lenI x0) > 127))), (7, .int .i64 (lenI x0)), (6, v0), (0, v0)]) S tys tys_ok 1 (by kernel_rfl) ?_
 clear S; intro a S
 refine wpList_nil ?_
 refine then_n ?_
 replace S := S.sub (l' := [(8, .bool (decide ((lenI x0) > 127))), (0, v0)]) (by exact ⟨rfl, rfl, trivial⟩)
 refine wp_cond_split (S.eval (show ev _ _ = some (.bool (decide ((lenI x0) > 127))) from rfl)) ?_ ?_
 ·intro hc
  rw [if_pos hc] at h
  refine wp_seq ?_
  refine wp_region_lit ?_
  refine wl_pure (l' := [(2, .int .i64 3), (8, .bool (decide ((lenI x0) > 127))), (0, v0)]) S tys tys_ok 1 (by kernel_rfl) ?_
  clear S; intro a S
  refine wpList_nil ?_
  refine then_n ?_
  replace S := S.sub (l' := [(2, .int .i64 3)]) (by exact ⟨rfl, trivial⟩)
  refine wp_ret ?_
  refine then_r ?_
  obtain rfl := Option.some.inj h
  exact b_ret1 S rfl rfl ⟨_, rfl, (RepV.mkInt (by decide)), W.below⟩
 ·intro hc
  rw [if_neg (Bool.eq_false_iff.1 hc)] at h
  refine wp_skip ?_
  refine then_n ?_
  replace S := S.sub (l' := [(0, v0)]) (by exact ⟨rfl, trivial⟩)
  refine wp_seq ?_
  refine wp_region_lit ?_
  obtain ⟨t_2, et_2, h⟩ := bindS h
  refine w_go S rfl (op_call (vs := []) S rfl cb31 rfl rfl rfl (c31 (Kx K w.heap.size []) n w  et_2) ?_)
  rintro _ w_6 ⟨v_3, rfl, R_4, hb_5⟩; refine ⟨_, rfl, ?_⟩
  clear S; intro a S
  replace R0 := R0.newW hb_5
  replace W : Wd w w_6 [some v_3] := W.newW hb_5
  replace R0 : RepV (.sl gt0) w_6 (Kx K w.heap.size [some v_3]) v0 x0 := R0
  refine w_go S rfl (op_alloc_set S st72 rfl rfl rfl ?_)
  clear S; intro a w_10 b_8 hb_11 B_9 S
  replace R0 := R0.box hb_11
  replace R_4 := R_4.box hb_11
  replace W := W.box hb_11
  refine w_go S rfl (op_store_set S st72 rfl rfl rfl rfl B_9 ?_)
  intro w_12 hw_13 B_
  replace R0 := R0.wrote hw_13 (by simp)
  replace R_4 := R_4.wrote hw_13 (by simp) (W.bne (p := 1) (q := 0) (by decide) rfl rfl)
  replace W := W.wrote hw_13 (by simp)
  replace B_9 : Ox (.cells #[.map (some v_3)] 72 (0, 0)) w_12 b_8 := B_; clear B_
  refine wpList_nil ?_
  refine then_n ?_
  replace S := S.sub (l' := [(3, pB b_8), (0, v0)]) (by exact ⟨rfl, rfl, trivial⟩)
  refine wp_seq ?_
  refine wp_seq ?_
  refine wp_region_lit ?_
  refine wl_pure (l' := [(10, v0), (3, pB b_8), (0, v0)]) S tys tys_ok 1 (by kernel_rfl) ?_
  clear S; intro a S
  refine w_go S rfl (op_len (K := _) S rfl ty23 rfl rfl rfl R0 ?_)
  clear S; intro a G_14 S
  refine wl_pure (l' := [(12, .int .i64 0), (11, .int .i64 (lenI x0)), (10, v0), (3, pB b_8), (0, v0)]) S tys tys_ok 1 (by kernel_rfl) ?_
  clear S; intro a S
  refine wpList_nil ?_
  refine then_n ?_
  obtain ⟨y_21, ey_21, h⟩ := bindS h
  refine wp_cut_ (fun a_ w_ => ∃ s_22 : (List Int), y_21 = .inl s_22 ∧ (St 75 a_ [] ∧ Wd w w_ [some b_8, some v_3] ∧ Mp .u8 w_ v_3 s_22 ∧ Ox (.cells #[.map (some v_3)] 72 (0, 0)) w_ b_8)) ?_ ?_
  ·refine wp_block ?_
   refine wp_loop_n (fun m_ a_ w_ => ∃ (c_15 : Int) (c_17 : List Int) , St 75 a_ [(12, .int .i64 c_15), (11, .int .i64 (lenI x0)), (10, v0), (3, pB b_8), (0, v0)] ∧ Wd w w_ [some b_8, some v_3] ∧ InR .i64 c_15 ∧ RepV (.sl gt0) w_ (Kx K w.heap.size [some b_8, some v_3]) v0 x0 ∧ Mp .u8 w_ v_3 c_17 ∧ Ox (.cells #[.map (some v_3)] 72 (0, 0)) w_ b_8 ∧ p10_l1 n x0 m_ c_15 c_17 = some y_21) n ?_ ?_
   ·skip
    exact ⟨0, t_2, ⟨S.sub (by exact ⟨rfl, rfl, rfl, rfl, rfl, trivial⟩), W, (show InR .i64 0 by decide), R0, R_4, B_9, ey_21⟩⟩
   ·clear S W; rintro m_23 a w_25 ⟨c_15, c_17, S, W, G_16, R0, R_4, B_9, hl_24⟩
    cases m_23 with
    | zero => exact absurd hl_24 (by simp [p10_l1])
    | succ m_23 =>
     refine ⟨m_23, rfl, ?_⟩
     rw [p10_l1] at hl_24
     refine wp_seq ?_
     refine wp_region_lit ?_
     refine wl_pure (l' := [(13, .bool (decide (c_15 < (lenI x0)))), (12, .int .i64 c_15), (11, .int .i64 (lenI x0)), (10, v0), (3, pB b_8), (0, v0)]) S tys tys_ok 1 (by kernel_rfl) ?_
     clear S; intro a S
     refine wpList_nil ?_
     refine then_n ?_
     refine wp_seq ?_
     refine wp_cond_split (S.eval (show ev _ _ = some (.bool (decide (c_15 < (lenI x0)))) from rfl)) ?_ ?_
     ·intro hc
      rw [if_pos hc] at hl_24
      refine wp_skip ?_
      refine then_n ?_
      replace S := S.sub (l' := [(12, .int .i64 c_15), (11, .int .i64 (lenI x0)), (10, v0), (3, pB b_8), (0, v0)]) (by exact ⟨rfl, rfl, rfl, rfl, rfl, trivial⟩)
      refine wp_seq ?_
      refine wp_block ?_
      refine wp_seq ?_
      refine wp_region_lit ?_
      refine wl_pure (l' := [(14, .int .i64 c_15), (12, .int .i64 c_15), (11, .int .i64 (lenI x0)), (10, v0), (3, pB b_8), (0, v0)]) S tys tys_ok 1 (by kernel_rfl) ?_
      clear S; intro a S
      obtain ⟨y_26, ey_26, hl_24⟩ := bindS hl_24
      refine w_go S rfl (op_indexAddr S rfl ty23 rfl rfl rfl R0 rfl ey_26 ?_)
      clear S; intro a p_27 R_28 H_29 S
      refine w_go S rfl (op_load (t := gt0) (x := y_26) S rfl ty33 rfl rfl rfl R_28 ?_)
      clear S; intro a v_30 R_31 S
      refine w_go S rfl (op_alloc (K := K) (n := w.heap.size) (L := [some b_8, some v_3]) (t := gt0) (y := (⟨[], some 0⟩, 0, 0)) S rfl rfl rfl _ z33 (fun w K => ⟨[.slice .none 0 0], [.int .u8 0, .int .u8 0], rfl, ⟨.none, 0, 0, rfl, rfl, Nat.le_refl _, by decide, fun k h => Option.some.inj h, .inl rfl⟩, ⟨[.int .u8 0], [.int .u8 0], rfl, ⟨rfl, by decide⟩, ⟨rfl, by decide⟩⟩⟩) ?_)
      clear S; intro a w_34 b_32 hb_35 B_33 S
      replace R0 := R0.box hb_35
      replace R_31 := R_31.box hb_35
      replace R_4 := R_4.box hb_35
      replace B_9 := B_9.box hb_35
      replace W := W.box hb_35
      refine wl_pure (l' := [(4, .int .i64 c_15), (5, pB b_32), (16, v_30), (15, .pointer (some p_27)), (14, .int .i64 c_15), (12, .int .i64 c_15), (11, .int .i64 (lenI x0)), (10, v0), (3, pB b_8), (0, v0)]) S tys tys_ok 1 (by kernel_rfl) ?_
      clear S; intro a S
      refine w_go S rfl (op_store (t' := gt0) S rfl rfl ty33 rfl rfl rfl B_33 (by simp) Ln.whole R_31 ?_)
      intro w_36 hw_37 B_
      replace R0 := R0.wrote hw_37 (by simp)
      replace R_31 := R_31.wrote hw_37 (by simp)
      replace R_4 := R_4.wrote hw_37 (by simp) (W.bne (p := 2) (q := 0) (by decide) rfl rfl)
      replace B_9 := B_9.wrote hw_37 (by simp) (W.bne (p := 1) (q := 0) (by decide) rfl rfl)
      replace W := W.wrote hw_37 (by simp)
      replace B_33 : Bx gt0 33 w_36 (Kx K w.heap.size [some b_32, some b_8, some v_3]) b_32 y_26 := B_; clear B_
      refine wpList_nil ?_
      refine then_n ?_
      replace S := S.sub (l' := [(4, .int .i64 c_15), (5, pB b_32), (12, .int .i64 c_15), (11, .int .i64 (lenI x0)), (10, v0), (3, pB b_8), (0, v0)]) (by exact ⟨rfl, rfl, rfl, rfl, rfl, rfl, rfl, trivial⟩)
      refine wp_seq ?_
      refine wp_seq ?_
      obtain ⟨t_40, et_40, hl_24⟩ := bindS hl_24
      obtain ⟨q_45, eq_45, hl_24⟩ := bindS hl_24
      have HG_46 : ((!t_40) = false → (decide (y_26.2.1 < 1)) = q_45) ∧ (¬ (!t_40) = false → true = q_45) := by
       by_cases hc : (!t_40) = false
       ·rw [if_pos hc] at eq_45
        exact ⟨fun _ => Option.some.inj eq_45, fun k_ => absurd hc k_⟩
       ·rw [if_neg hc] at eq_45
        exact ⟨fun k_ => absurd k_ hc, fun _ => Option.some.inj eq_45⟩
      obtain ⟨q_49, eq_49, hl_24⟩ := bindS hl_24
      have HG_50 : (q_45 = false → (decide (y_26.2.1 > 3)) = q_49) ∧ (¬ q_45 = false → true = q_49) := by
       by_cases hc : q_45 = false
       ·rw [if_pos hc] at eq_49
        exact ⟨fun _ => Option.some.inj eq_49, fun k_ => absurd hc k_⟩
       ·rw [if_neg hc] at eq_49
        exact ⟨fun k_ => absurd k_ hc, fun _ => Option.some.inj eq_49⟩
      obtain ⟨q_53, eq_53, hl_24⟩ := bindS hl_24
      obtain ⟨t_59, HG_54⟩ : ∃ (t_59 : (Bool)) , (q_49 = false → (p33 n y_26.2.1 y_26.2.2) = some t_59 ∧ (!t_59) = q_53) ∧ (¬ q_49 = false → true = q_53) := by
       by_cases hc : q_49 = false
       ·rw [if_pos hc] at eq_53
        obtain ⟨t_59, et_59, eq_53⟩ := bindS eq_53
        exact ⟨t_59, ⟨fun _ => ⟨et_59, Option.some.inj eq_53⟩, fun k_ => absurd hc k_⟩⟩
       ·rw [if_neg hc] at eq_53
        exact ⟨default, ⟨fun k_ => absurd k_ hc, fun _ => Option.some.inj eq_53⟩⟩
      obtain ⟨q_64, eq_64, hl_24⟩ := bindS hl_24
      obtain ⟨s_68, t_71, HG_65⟩ : ∃ (s_68 : Sl ((Sl (Int)) × Int × Int)) (t_71 : (Bool)) , (q_53 = false → (slI x0 0 c_15) = some s_68 ∧ (p34 n s_68 y_26.1) = some t_71 ∧ (!t_71) = q_64) ∧ (¬ q_53 = false → true = q_64) := by
       by_cases hc : q_53 = false
       ·rw [if_pos hc] at eq_64
        obtain ⟨s_68, es_68, eq_64⟩ := bindS eq_64
        obtain ⟨t_71, et_71, eq_64⟩ := bindS eq_64
        exact ⟨s_68, t_71, ⟨fun _ => ⟨es_68, et_71, Option.some.inj eq_64⟩, fun k_ => absurd hc k_⟩⟩
       ·rw [if_neg hc] at eq_64
        exact ⟨default, default, ⟨fun k_ => absurd k_ hc, fun _ => Option.some.inj eq_64⟩⟩
      have hR : Rel (Kx K w.heap.size [some b_32, some b_8, some v_3]) Bl := Bl.rel _
      refine wp_region_all hR [eqv (.pointer (some ((⟨b_32, 0, .none⟩ : Addr).add (coff gf0 0)))), isRep (.sl (.int .u8)) (Kx K w.heap.size [some b_32, some b_8, some v_3]) y_26.1, eqv (.bool t_40), eqv (.bool (!t_40)), eqv (.bool (!t_40)), cndF (!t_40) false (eqv (.pointer (some ((⟨b_32, 0, .none⟩ : Addr).add (coff gf0 1))))), cndF (!t_40) false (isI .u8 y_26.2.1), cndF (!t_40) false (eqv (.bool (decide (y_26.2.1 < 1)))), eqv (.bool q_45), eqv (.bool q_45), cndF q_45 false (eqv (.pointer (some ((⟨b_32, 0, .none⟩ : Addr).add (coff gf0 1))))), cndF q_45 false (isI .u8 y_26.2.1), cndF q_45 false (eqv (.bool (decide (y_26.2.1 > 3)))), eqv (.bool q_49), eqv (.bool q_49), cndF q_49 false (eqv (.pointer (some ((⟨b_32, 0, .none⟩ : Addr).add (coff gf0 1))))), cndF q_49 false (isI .u8 y_26.2.1), cndF q_49 false (eqv (.pointer (some ((⟨b_32, 0, .none⟩ : Addr).add (coff gf0 2))))), cndF q_49 false (isI .u8 y_26.2.2), cndF q_49 false (eqv (.bool t_59)), cndF q_49 false (eqv (.bool (!t_59))), eqv (.bool q_53), eqv (.bool q_53), cndF q_53 false (isRep (.sl gt0) (Kx K w.heap.size [some b_32, some b_8, some v_3]) x0), cndF q_53 false (isI .i64 c_15), cndF q_53 false (isRep (.sl gt0) (Kx K w.heap.size [some b_32, some b_8, some v_3]) s_68), cndF q_53 false (eqv (.pointer (some ((⟨b_32, 0, .none⟩ : Addr).add (coff gf0 0))))), cndF q_53 false (isRep (.sl (.int .u8)) (Kx K w.heap.size [some b_32, some b_8, some v_3]) y_26.1), cndF q_53 false (eqv (.bool t_71)), cndF q_53 false (eqv (.bool (!t_71))), eqv (.bool q_64)] [[], [(0, 17)], [(1, 18)], [(2, 19)], [(3, 20)], [(4, 21)], [(5, 22), (4, 21)], [(6, 23), (4, 21)], [(4, 21), (7, 24)], [(8, 25)], [(9, 26)], [(10, 27), (9, 26)], [(11, 28), (9, 26)], [(9, 26), (12, 29)], [(13, 30)], [(14, 31)], [(15, 32), (14, 31)], [(14, 31)], [(17, 34), (14, 31)], [(16, 33), (18, 35), (14, 31)], [(19, 36), (14, 31)], [(14, 31), (20, 37)], [(21, 38)], [(22, 39)], [(22, 39)], [(23, 40), (24, 41), (22, 39)], [(22, 39)], [(26, 43), (22, 39)], [(25, 42), (27, 44), (22, 39)], [(28, 45), (22, 39)], [(22, 39), (29, 46)]] (by kernel_rfl) (by rw [S.size]; kernel_rfl) (by kernel_rfl) (by kernel_rfl) rfl ⟨(stab_eqv _), (stab_rep hR), (stab_eqv _), (stab_eqv _), (stab_eqv _), (stab_cnd (stab_eqv _)), (stab_cnd stab_I), (stab_cnd (stab_eqv _)), (stab_eqv _), (stab_eqv _), (stab_cnd (stab_eqv _)), (stab_cnd stab_I), (stab_cnd (stab_eqv _)), (stab_eqv _), (stab_eqv _), (stab_cnd (stab_eqv _)), (stab_cnd stab_I), (stab_cnd (stab_eqv _)), (stab_cnd stab_I), (stab_cnd (stab_eqv _)), (stab_cnd (stab_eqv _)), (stab_eqv _), (stab_eqv _), (stab_cnd (stab_rep hR)), (stab_cnd stab_I), (stab_cnd (stab_rep hR)), (stab_cnd (stab_eqv _)), (stab_cnd (stab_rep hR)), (stab_cnd (stab_eqv _)), (stab_cnd (stab_eqv _)), (stab_eqv _), trivial⟩ ?_ ?_
      ·
       refine RunAll.cons (eqv (.pointer (some ((⟨b_32, 0, .none⟩ : Addr).add (coff gf0 0))))) [] rfl rfl ?_ ?_
       ·intro W_ hW
        have S1 := S
        replace B_33 := B_33.step hW
        exact RPost.one (v := .pointer (some ((⟨b_32, 0, .none⟩ : Addr).add (coff gf0 0)))) S1 tys tys_ok rfl (by kernel_rfl) S.defers rfl (Below.refl _ _)
       refine RunAll.cons (isRep (.sl (.int .u8)) (Kx K w.heap.size [some b_32, some b_8, some v_3]) y_26.1) [(eqv (.pointer (some ((⟨b_32, 0, .none⟩ : Addr).add (coff gf0 0)))), 17)] rfl rfl ?_ ?_
       ·intro W_ hW
        have S1 := S
        intro v_77 hF_76; obtain rfl : .pointer (some ((⟨b_32, 0, .none⟩ : Addr).add (coff gf0 0))) = v_77 := Eq.symm hF_76
        replace S1 := S1.put (by decide : 17 < 75) (.pointer (some ((⟨b_32, 0, .none⟩ : Addr).add (coff gf0 0))))
        refine fill_nil S1 ?_; clear S1; intro a_ S1
        replace B_33 := B_33.step hW
        have S0 := S.defers; replace S := S1; clear S1
        refine w_go S rfl (op_load (t := (.sl (.int .u8))) (x := y_26.1) S rfl ty25 rfl rfl rfl (RepAt.add 0 (RepAt.st (t := gf0) B_33.at_)) ?_)
        clear S; intro a v_78 R_79 S
        refine wpList_nil ?_
        exact RPost.mk_ S rfl S0 R_79 (Below.refl _ _)
       refine RunAll.cons (eqv (.bool t_40)) [(isRep (.sl (.int .u8)) (Kx K w.heap.size [some b_32, some b_8, some v_3]) y_26.1, 18)] rfl rfl ?_ ?_
       ·intro W_ hW
        have S1 := S
        intro v_81 hF_80; replace hF_80 : RepV _ _ _ _ _ := hF_80
        replace S1 := S1.put (by decide : 18 < 75) (v_81)
        refine fill_nil S1 ?_; clear S1; intro a_ S1
        replace W := W.step hW
        have S0 := S.defers; replace S := S1; clear S1
        refine w_go S rfl (op_call (vs := [v_81]) S rfl cb32 rfl rfl rfl (c32 (Kx K w.heap.size [some b_32, some b_8, some v_3]) n W_ y_26.1 _ hF_80 et_40) ?_)
        rintro _ w_85 ⟨v_82, rfl, R_83, hb_84⟩; refine ⟨_, rfl, ?_⟩
        replace R_83 := RepV.back R_83 W
        clear S; intro a S
        obtain rfl := RepV.bool R_83
        refine wpList_nil ?_
        exact RPost.mk_ S rfl S0 rfl (hb_84)
       refine RunAll.cons (eqv (.bool (!t_40))) [(eqv (.bool t_40), 19)] rfl rfl ?_ ?_
       ·intro W_ hW
        have S1 := S
        intro v_87 hF_86; obtain rfl : .bool t_40 = v_87 := Eq.symm hF_86
        replace S1 := S1.put (by decide : 19 < 75) (.bool t_40)
        exact RPost.one (v := .bool (!t_40)) S1 tys tys_ok rfl (by kernel_rfl) S.defers rfl (Below.refl _ _)
       refine RunAll.cons (eqv (.bool (!t_40))) [(eqv (.bool (!t_40)), 20)] rfl rfl ?_ ?_
       ·intro W_ hW
        have S1 := S
        intro v_89 hF_88; obtain rfl : .bool (!t_40) = v_89 := Eq.symm hF_88
        replace S1 := S1.put (by decide : 20 < 75) (.bool (!t_40))
        exact RPost.one (v := .bool (!t_40)) S1 tys tys_ok rfl (by kernel_rfl) S.defers rfl (Below.refl _ _)
       refine RunAll.cons (cndF (!t_40) false (eqv (.pointer (some ((⟨b_32, 0, .none⟩ : Addr).add (coff gf0 1)))))) [(eqv (.bool (!t_40)), 21)] rfl rfl ?_ ?_
       ·intro W_ hW
        by_cases hc0 : (!t_40) = false
        ·have hl0 : (!t_40) = false := hc0
         have S1 := S
         intro v_91 hF_90; obtain rfl : .bool (!t_40) = v_91 := Eq.symm hF_90
         replace S1 := S1.put (by decide : 21 < 75) (.bool (!t_40))
         refine fill_nil S1 ?_; clear S1; intro a_ S1
         replace B_33 := B_33.step hW
         rw [show (!t_40) = false from hl0] at S1
         exact RPost.one (v := .pointer (some ((⟨b_32, 0, .none⟩ : Addr).add (coff gf0 1)))) S1 tys tys_ok rfl (by kernel_rfl) S.defers ⟨fun _ => rfl, fun k_ => absurd hc0 k_⟩ (Below.refl _ _)
        ·have hl0 : (!t_40) = true := (by simpa using hc0)
         have S1 := S
         intro v_93 hF_92; obtain rfl : .bool (!t_40) = v_93 := Eq.symm hF_92
         replace S1 := S1.put (by decide : 21 < 75) (.bool (!t_40))
         refine fill_nil S1 ?_; clear S1; intro a_ S1
         rw [show (!t_40) = true from hl0] at S1
         exact RPost.one (v := undef) S1 tys tys_ok rfl (by kernel_rfl) S.defers ⟨fun k_ => absurd k_ hc0, fun _ => rfl⟩ (Below.refl _ _)
       refine RunAll.cons (cndF (!t_40) false (isI .u8 y_26.2.1)) [(cndF (!t_40) false (eqv (.pointer (some ((⟨b_32, 0, .none⟩ : Addr).add (coff gf0 1))))), 22), (eqv (.bool (!t_40)), 21)] rfl rfl ?_ ?_
       ·intro W_ hW
        by_cases hc0 : (!t_40) = false
        ·have hl0 : (!t_40) = false := hc0
         have S1 := S
         intro v_94 hF_95
         replace hF_95 := cndF.pos hF_95 hc0
         revert hF_95
         revert v_94
         intro v_97 hF_96; obtain rfl : .pointer (some ((⟨b_32, 0, .none⟩ : Addr).add (coff gf0 1))) = v_97 := Eq.symm hF_96
         replace S1 := S1.put (by decide : 22 < 75) (.pointer (some ((⟨b_32, 0, .none⟩ : Addr).add (coff gf0 1))))
         intro v_99 hF_98; obtain rfl : .bool (!t_40) = v_99 := Eq.symm hF_98
         replace S1 := S1.put (by decide : 21 < 75) (.bool (!t_40))
         refine fill_nil S1 ?_; clear S1; intro a_ S1
         replace B_33 := B_33.step hW
         rw [show (!t_40) = false from hl0] at S1
         have S0 := S.defers; replace S := S1; clear S1
         refine w_go S rfl (op_load (t := (.int .u8)) (x := y_26.2.1) S rfl ty29 rfl rfl rfl (RepAt.add 1 (RepAt.st (t := gf0) B_33.at_)) ?_)
         clear S; intro a v_100 R_101 S
         obtain ⟨rfl, GR_101⟩ := RepV.int R_101
         refine wpList_nil ?_
         exact RPost.mk_ S rfl S0 ⟨fun _ => ⟨rfl, GR_101⟩, fun k_ => absurd hc0 k_⟩ (Below.refl _ _)
        ·have hl0 : (!t_40) = true := (by simpa using hc0)
         have S1 := S
         intro v_102 hF_103
         obtain rfl := cndF.neg hF_103 hc0
         replace S1 := S1.put (by decide : 22 < 75) (undef)
         intro v_105 hF_104; obtain rfl : .bool (!t_40) = v_105 := Eq.symm hF_104
         replace S1 := S1.put (by decide : 21 < 75) (.bool (!t_40))
         refine fill_nil S1 ?_; clear S1; intro a_ S1
         rw [show (!t_40) = true from hl0] at S1
         exact RPost.one (v := undef) S1 tys tys_ok rfl (by kernel_rfl) S.defers ⟨fun k_ => absurd k_ hc0, fun _ => rfl⟩ (Below.refl _ _)
       refine RunAll.cons (cndF (!t_40) false (eqv (.bool (decide (y_26.2.1 < 1))))) [(cndF (!t_40) false (isI .u8 y_26.2.1), 23), (eqv (.bool (!t_40)), 21)] rfl rfl ?_ ?_
       ·intro W_ hW
        by_cases hc0 : (!t_40) = false
        ·have hl0 : (!t_40) = false := hc0
         have S1 := S
         intro v_106 hF_107
         replace hF_107 := cndF.pos hF_107 hc0
         revert hF_107
         revert v_106
         rintro _ ⟨rfl, hF_108⟩
         replace S1 := S1.put (by decide : 23 < 75) (.int .u8 y_26.2.1)
         intro v_111 hF_110; obtain rfl : .bool (!t_40) = v_111 := Eq.symm hF_110
         replace S1 := S1.put (by decide : 21 < 75) (.bool (!t_40))
         refine fill_nil S1 ?_; clear S1; intro a_ S1
         rw [show (!t_40) = false from hl0] at S1
         exact RPost.one (v := .bool (decide (y_26.2.1 < 1))) S1 tys tys_ok rfl (by kernel_rfl) S.defers ⟨fun _ => rfl, fun k_ => absurd hc0 k_⟩ (Below.refl _ _)
        ·have hl0 : (!t_40) = true := (by simpa using hc0)
         have S1 := S
         intro v_112 hF_113
         obtain rfl := cndF.neg hF_113 hc0
         replace S1 := S1.put (by decide : 23 < 75) (undef)
         intro v_115 hF_114; obtain rfl : .bool (!t_40) = v_115 := Eq.symm hF_114
         replace S1 := S1.put (by decide : 21 < 75) (.bool (!t_40))
         refine fill_nil S1 ?_; clear S1; intro a_ S1
         rw [show (!t_40) = true from hl0] at S1
         exact RPost.one (v := undef) S1 tys tys_ok rfl (by kernel_rfl) S.defers ⟨fun k_ => absurd k_ hc0, fun _ => rfl⟩ (Below.refl _ _)
       refine RunAll.cons (eqv (.bool q_45)) [(eqv (.bool (!t_40)), 21), (cndF (!t_40) false (eqv (.bool (decide (y_26.2.1 < 1)))), 24)] rfl rfl ?_ ?_
       ·intro W_ hW
        by_cases hc0 : (!t_40) = false
        ·have hl0 : (!t_40) = false := hc0
         have S1 := S
         intro v_117 hF_116; obtain rfl : .bool (!t_40) = v_117 := Eq.symm hF_116
         replace S1 := S1.put (by decide : 21 < 75) (.bool (!t_40))
         intro v_118 hF_119
         replace hF_119 := cndF.pos hF_119 hc0
         revert hF_119
         revert v_118
         intro v_121 hF_120; obtain rfl : .bool (decide (y_26.2.1 < 1)) = v_121 := Eq.symm hF_120
         replace S1 := S1.put (by decide : 24 < 75) (.bool (decide (y_26.2.1 < 1)))
         refine fill_nil S1 ?_; clear S1; intro a_ S1
         rw [show (!t_40) = false from hl0] at S1
         exact RPost.one (v := .bool (decide (y_26.2.1 < 1))) S1 tys tys_ok rfl (by kernel_rfl) S.defers (congrArg Value.bool ((HG_46).1 hc0)) (Below.refl _ _)
        ·have hl0 : (!t_40) = true := (by simpa using hc0)
         have S1 := S
         intro v_123 hF_122; obtain rfl : .bool (!t_40) = v_123 := Eq.symm hF_122
         replace S1 := S1.put (by decide : 21 < 75) (.bool (!t_40))
         intro v_124 hF_125
         obtain rfl := cndF.neg hF_125 hc0
         replace S1 := S1.put (by decide : 24 < 75) (undef)
         refine fill_nil S1 ?_; clear S1; intro a_ S1
         rw [show (!t_40) = true from hl0] at S1
         exact RPost.one (v := .bool true) S1 tys tys_ok rfl (by kernel_rfl) S.defers (congrArg Value.bool ((HG_46).2 hc0)) (Below.refl _ _)
       refine RunAll.cons (eqv (.bool q_45)) [(eqv (.bool q_45), 25)] rfl rfl ?_ ?_
       ·intro W_ hW
        have S1 := S
        intro v_127 hF_126; obtain rfl : .bool q_45 = v_127 := Eq.symm hF_126
        replace S1 := S1.put (by decide : 25 < 75) (.bool q_45)
        exact RPost.one (v := .bool q_45) S1 tys tys_ok rfl (by kernel_rfl) S.defers rfl (Below.refl _ _)
       refine RunAll.cons (cndF q_45 false (eqv (.pointer (some ((⟨b_32, 0, .none⟩ : Addr).add (coff gf0 1)))))) [(eqv (.bool q_45), 26)] rfl rfl ?_ ?_
       ·intro W_ hW
        by_cases hc1 : q_45 = false
        ·have hl1 : q_45 = false := hc1
         have S1 := S
         intro v_129 hF_128; obtain rfl : .bool q_45 = v_129 := Eq.symm hF_128
         replace S1 := S1.put (by decide : 26 < 75) (.bool q_45)
         refine fill_nil S1 ?_; clear S1; intro a_ S1
         replace B_33 := B_33.step hW
         rw [show q_45 = false from hl1] at S1
         exact RPost.one (v := .pointer (some ((⟨b_32, 0, .none⟩ : Addr).add (coff gf0 1)))) S1 tys tys_ok rfl (by kernel_rfl) S.defers ⟨fun _ => rfl, fun k_ => absurd hc1 k_⟩ (Below.refl _ _)
        ·have hl1 : q_45 = true := (by simpa using hc1)
         have S1 := S
         intro v_131 hF_130; obtain rfl : .bool q_45 = v_131 := Eq.symm hF_130
         replace S1 := S1.put (by decide : 26 < 75) (.bool q_45)
         refine fill_nil S1 ?_; clear S1; intro a_ S1
         rw [show q_45 = true from hl1] at S1
         exact RPost.one (v := undef) S1 tys tys_ok rfl (by kernel_rfl) S.defers ⟨fun k_ => absurd k_ hc1, fun _ => rfl⟩ (Below.refl _ _)
       refine RunAll.cons (cndF q_45 false (isI .u8 y_26.2.1)) [(cndF q_45 false (eqv (.pointer (some ((⟨b_32, 0, .none⟩ : Addr).add (coff gf0 1))))), 27), (eqv (.bool q_45), 26)] rfl rfl ?_ ?_
       ·intro W_ hW
        by_cases hc1 : q_45 = false
        ·have hl1 : q_45 = false := hc1
         have S1 := S
         intro v_132 hF_133
         replace hF_133 := cndF.pos hF_133 hc1
         revert hF_133
         revert v_132
         intro v_135 hF_134; obtain rfl : .pointer (some ((⟨b_32, 0, .none⟩ : Addr).add (coff gf0 1))) = v_135 := Eq.symm hF_134
         replace S1 := S1.put (by decide : 27 < 75) (.pointer (some ((⟨b_32, 0, .none⟩ : Addr).add (coff gf0 1))))
         intro v_137 hF_136; obtain rfl : .bool q_45 = v_137 := Eq.symm hF_136
         replace S1 := S1.put (by decide : 26 < 75) (.bool q_45)
         refine fill_nil S1 ?_; clear S1; intro a_ S1
         replace B_33 := B_33.step hW
         rw [show q_45 = false from hl1] at S1
         have S0 := S.defers; replace S := S1; clear S1
         refine w_go S rfl (op_load (t := (.int .u8)) (x := y_26.2.1) S rfl ty29 rfl rfl rfl (RepAt.add 1 (RepAt.st (t := gf0) B_33.at_)) ?_)
         clear S; intro a v_138 R_139 S
         obtain ⟨rfl, GR_139⟩ := RepV.int R_139
         refine wpList_nil ?_
         exact RPost.mk_ S rfl S0 ⟨fun _ => ⟨rfl, GR_139⟩, fun k_ => absurd hc1 k_⟩ (Below.refl _ _)
        ·have hl1 : q_45 = true := (by simpa using hc1)
         have S1 := S
         intro v_140 hF_141
         obtain rfl := cndF.neg hF_141 hc1
         replace S1 := S1.put (by decide : 27 < 75) (undef)
         intro v_143 hF_142; obtain rfl : .bool q_45 = v_143 := Eq.symm hF_142
         replace S1 := S1.put (by decide : 26 < 75) (.bool q_45)
         refine fill_nil S1 ?_; clear S1; intro a_ S1
         rw [show q_45 = true from hl1] at S1
         exact RPost.one (v := undef) S1 tys tys_ok rfl (by kernel_rfl) S.defers ⟨fun k_ => absurd k_ hc1, fun _ => rfl⟩ (Below.refl _ _)
       refine RunAll.cons (cndF q_45 false (eqv (.bool (decide (y_26.2.1 > 3))))) [(cndF q_45 false (isI .u8 y_26.2.1), 28), (eqv (.bool q_45), 26)] rfl rfl ?_ ?_
       ·intro W_ hW
        by_cases hc1 : q_45 = false
        ·have hl1 : q_45 = false := hc1
         have S1 := S
         intro v_144 hF_145
         replace hF_145 := cndF.pos hF_145 hc1
         revert hF_145
         revert v_144
         rintro _ ⟨rfl, hF_146⟩
         replace S1 := S1.put (by decide : 28 < 75) (.int .u8 y_26.2.1)
         intro v_149 hF_148; obtain rfl : .bool q_45 = v_149 := Eq.symm hF_148
         replace S1 := S1.put (by decide : 26 < 75) (.bool q_45)
         refine fill_nil S1 ?_; clear S1; intro a_ S1
         rw [show q_45 = false from hl1] at S1
         exact RPost.one (v := .bool (decide (y_26.2.1 > 3))) S1 tys tys_ok rfl (by kernel_rfl) S.defers ⟨fun _ => rfl, fun k_ => absurd hc1 k_⟩ (Below.refl _ _)
        ·have hl1 : q_45 = true := (by simpa using hc1)
         have S1 := S
         intro v_150 hF_151
         obtain rfl := cndF.neg hF_151 hc1
         replace S1 := S1.put (by decide : 28 < 75) (undef)
         intro v_153 hF_152; obtain rfl : .bool q_45 = v_153 := Eq.symm hF_152
         replace S1 := S1.put (by decide : 26 < 75) (.bool q_45)
         refine fill_nil S1 ?_; clear S1; intro a_ S1
         rw [show q_45 = true from hl1] at S1
         exact RPost.one (v := undef) S1 tys tys_ok rfl (by kernel_rfl) S.defers ⟨fun k_ => absurd k_ hc1, fun _ => rfl⟩ (Below.refl _ _)
       refine RunAll.cons (eqv (.bool q_49)) [(eqv (.bool q_45), 26), (cndF q_45 false (eqv (.bool (decide (y_26.2.1 > 3)))), 29)] rfl rfl ?_ ?_
       ·intro W_ hW
        by_cases hc1 : q_45 = false
        ·have hl1 : q_45 = false := hc1
         have S1 := S
         intro v_155 hF_154; obtain rfl : .bool q_45 = v_155 := Eq.symm hF_154
         replace S1 := S1.put (by decide : 26 < 75) (.bool q_45)
         intro v_156 hF_157
         replace hF_157 := cndF.pos hF_157 hc1
         revert hF_157
         revert v_156
         intro v_159 hF_158; obtain rfl : .bool (decide (y_26.2.1 > 3)) = v_159 := Eq.symm hF_158
         replace S1 := S1.put (by decide : 29 < 75) (.bool (decide (y_26.2.1 > 3)))
         refine fill_nil S1 ?_; clear S1; intro a_ S1
         rw [show q_45 = false from hl1] at S1
         exact RPost.one (v := .bool (decide (y_26.2.1 > 3))) S1 tys tys_ok rfl (by kernel_rfl) S.defers (congrArg Value.bool ((HG_50).1 hc1)) (Below.refl _ _)
        ·have hl1 : q_45 = true := (by simpa using hc1)
         have S1 := S
         intro v_161 hF_160; obtain rfl : .bool q_45 = v_161 := Eq.symm hF_160
         replace S1 := S1.put (by decide : 26 < 75) (.bool q_45)
         intro v_162 hF_163
         obtain rfl := cndF.neg hF_163 hc1
         replace S1 := S1.put (by decide : 29 < 75) (undef)
         refine fill_nil S1 ?_; clear S1; intro a_ S1
         rw [show q_45 = true from hl1] at S1
         exact RPost.one (v := .bool true) S1 tys tys_ok rfl (by kernel_rfl) S.defers (congrArg Value.bool ((HG_50).2 hc1)) (Below.refl _ _)
       refine RunAll.cons (eqv (.bool q_49)) [(eqv (.bool q_49), 30)] rfl rfl ?_ ?_
       ·intro W_ hW
        have S1 := S
        intro v_165 hF_164; obtain rfl : .bool q_49 = v_165 := Eq.symm hF_164
        replace S1 := S1.put (by decide : 30 < 75) (.bool q_49)
        exact RPost.one (v := .bool q_49) S1 tys tys_ok rfl (by kernel_rfl) S.defers rfl (Below.refl _ _)
       refine RunAll.cons (cndF q_49 false (eqv (.pointer (some ((⟨b_32, 0, .none⟩ : Addr).add (coff gf0 1)))))) [(eqv (.bool q_49), 31)] rfl rfl ?_ ?_
       ·intro W_ hW
        by_cases hc2 : q_49 = false
        ·have hl2 : q_49 = false := hc2
         have S1 := S
         intro v_167 hF_166; obtain rfl : .bool q_49 = v_167 := Eq.symm hF_166
         replace S1 := S1.put (by decide : 31 < 75) (.bool q_49)
         refine fill_nil S1 ?_; clear S1; intro a_ S1
         replace B_33 := B_33.step hW
         rw [show q_49 = false from hl2] at S1
         exact RPost.one (v := .pointer (some ((⟨b_32, 0, .none⟩ : Addr).add (coff gf0 1)))) S1 tys tys_ok rfl (by kernel_rfl) S.defers ⟨fun _ => rfl, fun k_ => absurd hc2 k_⟩ (Below.refl _ _)
        ·have hl2 : q_49 = true := (by simpa using hc2)
         have S1 := S
         intro v_169 hF_168; obtain rfl : .bool q_49 = v_169 := Eq.symm hF_168
         replace S1 := S1.put (by decide : 31 < 75) (.bool q_49)
         refine fill_nil S1 ?_; clear S1; intro a_ S1
         rw [show q_49 = true from hl2] at S1
         exact RPost.one (v := undef) S1 tys tys_ok rfl (by kernel_rfl) S.defers ⟨fun k_ => absurd k_ hc2, fun _ => rfl⟩ (Below.refl _ _)
       refine RunAll.cons (cndF q_49 false (isI .u8 y_26.2.1)) [(cndF q_49 false (eqv (.pointer (some ((⟨b_32, 0, .none⟩ : Addr).add (coff gf0 1))))), 32), (eqv (.bool q_49), 31)] rfl rfl ?_ ?_
       ·intro W_ hW
        by_cases hc2 : q_49 = false
        ·have hl2 : q_49 = false := hc2
         have S1 := S
         intro v_170 hF_171
         replace hF_171 := cndF.pos hF_171 hc2
         revert hF_171
         revert v_170
         intro v_173 hF_172; obtain rfl : .pointer (some ((⟨b_32, 0, .none⟩ : Addr).add (coff gf0 1))) = v_173 := Eq.symm hF_172
         replace S1 := S1.put (by decide : 32 < 75) (.pointer (some ((⟨b_32, 0, .none⟩ : Addr).add (coff gf0 1))))
         intro v_175 hF_174; obtain rfl : .bool q_49 = v_175 := Eq.symm hF_174
         replace S1 := S1.put (by decide : 31 < 75) (.bool q_49)
         refine fill_nil S1 ?_; clear S1; intro a_ S1
         replace B_33 := B_33.step hW
         rw [show q_49 = false from hl2] at S1
         have S0 := S.defers; replace S := S1; clear S1
         obtain ⟨et_59, _⟩ := (HG_54).1 hc2
         refine w_go S rfl (op_load (t := (.int .u8)) (x := y_26.2.1) S rfl ty29 rfl rfl rfl (RepAt.add 1 (RepAt.st (t := gf0) B_33.at_)) ?_)
         clear S; intro a v_176 R_177 S
         obtain ⟨rfl, GR_177⟩ := RepV.int R_177
         refine wpList_nil ?_
         exact RPost.mk_ S rfl S0 ⟨fun _ => ⟨rfl, GR_177⟩, fun k_ => absurd hc2 k_⟩ (Below.refl _ _)
        ·have hl2 : q_49 = true := (by simpa using hc2)
         have S1 := S
         intro v_178 hF_179
         obtain rfl := cndF.neg hF_179 hc2
         replace S1 := S1.put (by decide : 32 < 75) (undef)
         intro v_181 hF_180; obtain rfl : .bool q_49 = v_181 := Eq.symm hF_180
         replace S1 := S1.put (by decide : 31 < 75) (.bool q_49)
         refine fill_nil S1 ?_; clear S1; intro a_ S1
         rw [show q_49 = true from hl2] at S1
         exact RPost.one (v := undef) S1 tys tys_ok rfl (by kernel_rfl) S.defers ⟨fun k_ => absurd k_ hc2, fun _ => rfl⟩ (Below.refl _ _)
       refine RunAll.cons (cndF q_49 false (eqv (.pointer (some ((⟨b_32, 0, .none⟩ : Addr).add (coff gf0 2)))))) [(eqv (.bool q_49), 31)] rfl rfl ?_ ?_
       ·intro W_ hW
        by_cases hc2 : q_49 = false
        ·have hl2 : q_49 = false := hc2
         have S1 := S
         intro v_183 hF_182; obtain rfl : .bool q_49 = v_183 := Eq.symm hF_182
         replace S1 := S1.put (by decide : 31 < 75) (.bool q_49)
         refine fill_nil S1 ?_; clear S1; intro a_ S1
         replace B_33 := B_33.step hW
         rw [show q_49 = false from hl2] at S1
         exact RPost.one (v := .pointer (some ((⟨b_32, 0, .none⟩ : Addr).add (coff gf0 2)))) S1 tys tys_ok rfl (by kernel_rfl) S.defers ⟨fun _ => rfl, fun k_ => absurd hc2 k_⟩ (Below.refl _ _)
        ·have hl2 : q_49 = true := (by simpa using hc2)
         have S1 := S
         intro v_185 hF_184; obtain rfl : .bool q_49 = v_185 := Eq.symm hF_184
         replace S1 := S1.put (by decide : 31 < 75) (.bool q_49)
         refine fill_nil S1 ?_; clear S1; intro a_ S1
         rw [show q_49 = true from hl2] at S1
         exact RPost.one (v := undef) S1 tys tys_ok rfl (by kernel_rfl) S.defers ⟨fun k_ => absurd k_ hc2, fun _ => rfl⟩ (Below.refl _ _)
       refine RunAll.cons (cndF q_49 false (isI .u8 y_26.2.2)) [(cndF q_49 false (eqv (.pointer (some ((⟨b_32, 0, .none⟩ : Addr).add (coff gf0 2))))), 34), (eqv (.bool q_49), 31)] rfl rfl ?_ ?_
       ·intro W_ hW
        by_cases hc2 : q_49 = false
        ·have hl2 : q_49 = false := hc2
         have S1 := S
         intro v_186 hF_187
         replace hF_187 := cndF.pos hF_187 hc2
         revert hF_187
         revert v_186
         intro v_189 hF_188; obtain rfl : .pointer (some ((⟨b_32, 0, .none⟩ : Addr).add (coff gf0 2))) = v_189 := Eq.symm hF_188
         replace S1 := S1.put (by decide : 34 < 75) (.pointer (some ((⟨b_32, 0, .none⟩ : Addr).add (coff gf0 2))))
         intro v_191 hF_190; obtain rfl : .bool q_49 = v_191 := Eq.symm hF_190
         replace S1 := S1.put (by decide : 31 < 75) (.bool q_49)
         refine fill_nil S1 ?_; clear S1; intro a_ S1
         replace B_33 := B_33.step hW
         rw [show q_49 = false from hl2] at S1
         have S0 := S.defers; replace S := S1; clear S1
         obtain ⟨et_59, _⟩ := (HG_54).1 hc2
         refine w_go S rfl (op_load (t := (.int .u8)) (x := y_26.2.2) S rfl ty5 rfl rfl rfl (RepAt.add 2 (RepAt.st (t := gf0) B_33.at_)) ?_)
         clear S; intro a v_192 R_193 S
         obtain ⟨rfl, GR_193⟩ := RepV.int R_193
         refine wpList_nil ?_
         exact RPost.mk_ S rfl S0 ⟨fun _ => ⟨rfl, GR_193⟩, fun k_ => absurd hc2 k_⟩ (Below.refl _ _)
        ·have hl2 : q_49 = true := (by simpa using hc2)
         have S1 := S
         intro v_194 hF_195
         obtain rfl := cndF.neg hF_195 hc2
         replace S1 := S1.put (by decide : 34 < 75) (undef)
         intro v_197 hF_196; obtain rfl : .bool q_49 = v_197 := Eq.symm hF_196
         replace S1 := S1.put (by decide : 31 < 75) (.bool q_49)
         refine fill_nil S1 ?_; clear S1; intro a_ S1
         rw [show q_49 = true from hl2] at S1
         exact RPost.one (v := undef) S1 tys tys_ok rfl (by kernel_rfl) S.defers ⟨fun k_ => absurd k_ hc2, fun _ => rfl⟩ (Below.refl _ _)
       refine RunAll.cons (cndF q_49 false (eqv (.bool t_59))) [(cndF q_49 false (isI .u8 y_26.2.1), 33), (cndF q_49 false (isI .u8 y_26.2.2), 35), (eqv (.bool q_49), 31)] rfl rfl ?_ ?_
       ·intro W_ hW
        by_cases hc2 : q_49 = false
        ·have hl2 : q_49 = false := hc2
         have S1 := S
         intro v_198 hF_199
         replace hF_199 := cndF.pos hF_199 hc2
         revert hF_199
         revert v_198
         rintro _ ⟨rfl, hF_200⟩
         replace S1 := S1.put (by decide : 33 < 75) (.int .u8 y_26.2.1)
         intro v_202 hF_203
         replace hF_203 := cndF.pos hF_203 hc2
         revert hF_203
         revert v_202
         rintro _ ⟨rfl, hF_204⟩
         replace S1 := S1.put (by decide : 35 < 75) (.int .u8 y_26.2.2)
         intro v_207 hF_206; obtain rfl : .bool q_49 = v_207 := Eq.symm hF_206
         replace S1 := S1.put (by decide : 31 < 75) (.bool q_49)
         refine fill_nil S1 ?_; clear S1; intro a_ S1
         replace W := W.step hW
         rw [show q_49 = false from hl2] at S1
         have S0 := S.defers; replace S := S1; clear S1
         obtain ⟨et_59, _⟩ := (HG_54).1 hc2
         refine w_go S rfl (op_call (vs := [.int .u8 y_26.2.1, .int .u8 y_26.2.2]) S rfl cb33 rfl rfl rfl (c33 (Kx K w.heap.size [some b_32, some b_8, some v_3]) n W_ y_26.2.1 hF_200 y_26.2.2 hF_204 et_59) ?_)
         rintro _ w_211 ⟨v_208, rfl, R_209, hb_210⟩; refine ⟨_, rfl, ?_⟩
         replace R_209 := RepV.back R_209 W
         clear S; intro a S
         obtain rfl := RepV.bool R_209
         refine wpList_nil ?_
         exact RPost.mk_ S rfl S0 ⟨fun _ => rfl, fun k_ => absurd hc2 k_⟩ (hb_210)
        ·have hl2 : q_49 = true := (by simpa using hc2)
         have S1 := S
         intro v_212 hF_213
         obtain rfl := cndF.neg hF_213 hc2
         replace S1 := S1.put (by decide : 33 < 75) (undef)
         intro v_214 hF_215
         obtain rfl := cndF.neg hF_215 hc2
         replace S1 := S1.put (by decide : 35 < 75) (undef)
         intro v_217 hF_216; obtain rfl : .bool q_49 = v_217 := Eq.symm hF_216
         replace S1 := S1.put (by decide : 31 < 75) (.bool q_49)
         refine fill_nil S1 ?_; clear S1; intro a_ S1
         rw [show q_49 = true from hl2] at S1
         exact RPost.one (v := undef) S1 tys tys_ok rfl (by kernel_rfl) S.defers ⟨fun k_ => absurd k_ hc2, fun _ => rfl⟩ (Below.refl _ _)
       refine RunAll.cons (cndF q_49 false (eqv (.bool (!t_59)))) [(cndF q_49 false (eqv (.bool t_59)), 36), (eqv (.bool q_49), 31)] rfl rfl ?_ ?_
       ·intro W_ hW
        by_cases hc2 : q_49 = false
        ·have hl2 : q_49 = false := hc2
         have S1 := S
         intro v_218 hF_219
         replace hF_219 := cndF.pos hF_219 hc2
         revert hF_219
         revert v_218
         intro v_221 hF_220; obtain rfl : .bool t_59 = v_221 := Eq.symm hF_220
         replace S1 := S1.put (by decide : 36 < 75) (.bool t_59)
         intro v_223 hF_222; obtain rfl : .bool q_49 = v_223 := Eq.symm hF_222
         replace S1 := S1.put (by decide : 31 < 75) (.bool q_49)
         refine fill_nil S1 ?_; clear S1; intro a_ S1
         rw [show q_49 = false from hl2] at S1
         exact RPost.one (v := .bool (!t_59)) S1 tys tys_ok rfl (by kernel_rfl) S.defers ⟨fun _ => rfl, fun k_ => absurd hc2 k_⟩ (Below.refl _ _)
        ·have hl2 : q_49 = true := (by simpa using hc2)
         have S1 := S
         intro v_224 hF_225
         obtain rfl := cndF.neg hF_225 hc2
         replace S1 := S1.put (by decide : 36 < 75) (undef)
         intro v_227 hF_226; obtain rfl : .bool q_49 = v_227 := Eq.symm hF_226
         replace S1 := S1.put (by decide : 31 < 75) (.bool q_49)
         refine fill_nil S1 ?_; clear S1; intro a_ S1
         rw [show q_49 = true from hl2] at S1
         exact RPost.one (v := undef) S1 tys tys_ok rfl (by kernel_rfl) S.defers ⟨fun k_ => absurd k_ hc2, fun _ => rfl⟩ (Below.refl _ _)
       refine RunAll.cons (eqv (.bool q_53)) [(eqv (.bool q_49), 31), (cndF q_49 false (eqv (.bool (!t_59))), 37)] rfl rfl ?_ ?_
       ·intro W_ hW
        by_cases hc2 : q_49 = false
        ·have hl2 : q_49 = false := hc2
         have S1 := S
         intro v_229 hF_228; obtain rfl : .bool q_49 = v_229 := Eq.symm hF_228
         replace S1 := S1.put (by decide : 31 < 75) (.bool q_49)
         intro v_230 hF_231
         replace hF_231 := cndF.pos hF_231 hc2
         revert hF_231
         revert v_230
         intro v_233 hF_232; obtain rfl : .bool (!t_59) = v_233 := Eq.symm hF_232
         replace S1 := S1.put (by decide : 37 < 75) (.bool (!t_59))
         refine fill_nil S1 ?_; clear S1; intro a_ S1
         rw [show q_49 = false from hl2] at S1
         exact RPost.one (v := .bool (!t_59)) S1 tys tys_ok rfl (by kernel_rfl) S.defers (congrArg Value.bool ((HG_54).1 hc2).2) (Below.refl _ _)
        ·have hl2 : q_49 = true := (by simpa using hc2)
         have S1 := S
         intro v_235 hF_234; obtain rfl : .bool q_49 = v_235 := Eq.symm hF_234
         replace S1 := S1.put (by decide : 31 < 75) (.bool q_49)
         intro v_236 hF_237
         obtain rfl := cndF.neg hF_237 hc2
         replace S1 := S1.put (by decide : 37 < 75) (undef)
         refine fill_nil S1 ?_; clear S1; intro a_ S1
         rw [show q_49 = true from hl2] at S1
         exact RPost.one (v := .bool true) S1 tys tys_ok rfl (by kernel_rfl) S.defers (congrArg Value.bool ((HG_54).2 hc2)) (Below.refl _ _)
       refine RunAll.cons (eqv (.bool q_53)) [(eqv (.bool q_53), 38)] rfl rfl ?_ ?_
       ·intro W_ hW
        have S1 := S
        intro v_239 hF_238; obtain rfl : .bool q_53 = v_239 := Eq.symm hF_238
        replace S1 := S1.put (by decide : 38 < 75) (.bool q_53)
        exact RPost.one (v := .bool q_53) S1 tys tys_ok rfl (by kernel_rfl) S.defers rfl (Below.refl _ _)
       refine RunAll.cons (cndF q_53 false (isRep (.sl gt0) (Kx K w.heap.size [some b_32, some b_8, some v_3]) x0)) [(eqv (.bool q_53), 39)] rfl rfl ?_ ?_
       ·intro W_ hW
        by_cases hc3 : q_53 = false
        ·have hl3 : q_53 = false := hc3
         have S1 := S
         intro v_241 hF_240; obtain rfl : .bool q_53 = v_241 := Eq.symm hF_240
         replace S1 := S1.put (by decide : 39 < 75) (.bool q_53)
         refine fill_nil S1 ?_; clear S1; intro a_ S1
         replace R0 := R0.step hW
         rw [show q_53 = false from hl3] at S1
         exact RPost.one (v := v0) S1 tys tys_ok rfl (by kernel_rfl) S.defers ⟨fun _ => R0, fun k_ => absurd hc3 k_⟩ (Below.refl _ _)
        ·have hl3 : q_53 = true := (by simpa using hc3)
         have S1 := S
         intro v_243 hF_242; obtain rfl : .bool q_53 = v_243 := Eq.symm hF_242
         replace S1 := S1.put (by decide : 39 < 75) (.bool q_53)
         refine fill_nil S1 ?_; clear S1; intro a_ S1
         rw [show q_53 = true from hl3] at S1
         exact RPost.one (v := undef) S1 tys tys_ok rfl (by kernel_rfl) S.defers ⟨fun k_ => absurd k_ hc3, fun _ => rfl⟩ (Below.refl _ _)
       refine RunAll.cons (cndF q_53 false (isI .i64 c_15)) [(eqv (.bool q_53), 39)] rfl rfl ?_ ?_
       ·intro W_ hW
        by_cases hc3 : q_53 = false
        ·have hl3 : q_53 = false := hc3
         have S1 := S
         intro v_245 hF_244; obtain rfl : .bool q_53 = v_245 := Eq.symm hF_244
         replace S1 := S1.put (by decide : 39 < 75) (.bool q_53)
         refine fill_nil S1 ?_; clear S1; intro a_ S1
         rw [show q_53 = false from hl3] at S1
         exact RPost.one (v := .int .i64 c_15) S1 tys tys_ok rfl (by kernel_rfl) S.defers ⟨fun _ => ⟨rfl, G_16⟩, fun k_ => absurd hc3 k_⟩ (Below.refl _ _)
        ·have hl3 : q_53 = true := (by simpa using hc3)
         have S1 := S
         intro v_247 hF_246; obtain rfl : .bool q_53 = v_247 := Eq.symm hF_246
         replace S1 := S1.put (by decide : 39 < 75) (.bool q_53)
         refine fill_nil S1 ?_; clear S1; intro a_ S1
         rw [show q_53 = true from hl3] at S1
         exact RPost.one (v := undef) S1 tys tys_ok rfl (by kernel_rfl) S.defers ⟨fun k_ => absurd k_ hc3, fun _ => rfl⟩ (Below.refl _ _)
       refine RunAll.cons (cndF q_53 false (isRep (.sl gt0) (Kx K w.heap.size [some b_32, some b_8, some v_3]) s_68)) [(cndF q_53 false (isRep (.sl gt0) (Kx K w.heap.size [some b_32, some b_8, some v_3]) x0), 40), (cndF q_53 false (isI .i64 c_15), 41), (eqv (.bool q_53), 39)] rfl rfl ?_ ?_
       ·intro W_ hW
        by_cases hc3 : q_53 = false
        ·have hl3 : q_53 = false := hc3
         have S1 := S
         intro v_248 hF_249
         replace hF_249 := cndF.pos hF_249 hc3
         revert hF_249
         revert v_248
         intro v_251 hF_250; replace hF_250 : RepV _ _ _ _ _ := hF_250
         replace S1 := S1.put (by decide : 40 < 75) (v_251)
         intro v_252 hF_253
         replace hF_253 := cndF.pos hF_253 hc3
         revert hF_253
         revert v_252
         rintro _ ⟨rfl, hF_254⟩
         replace S1 := S1.put (by decide : 41 < 75) (.int .i64 c_15)
         intro v_257 hF_256; obtain rfl : .bool q_53 = v_257 := Eq.symm hF_256
         replace S1 := S1.put (by decide : 39 < 75) (.bool q_53)
         refine fill_nil S1 ?_; clear S1; intro a_ S1
         rw [show q_53 = false from hl3] at S1
         have S0 := S.defers; replace S := S1; clear S1
         obtain ⟨es_68, et_71, _⟩ := (HG_65).1 hc3
         refine w_go S rfl (op_slice S rfl ty23 rfl rfl rfl hF_250 (.inl ⟨rfl, rfl⟩) (.inr ⟨_, _, rfl, rfl⟩) es_68 ?_)
         clear S; intro a v_258 R_259 S
         refine wpList_nil ?_
         exact RPost.mk_ S rfl S0 ⟨fun _ => R_259, fun k_ => absurd hc3 k_⟩ (Below.refl _ _)
        ·have hl3 : q_53 = true := (by simpa using hc3)
         have S1 := S
         intro v_260 hF_261
         obtain rfl := cndF.neg hF_261 hc3
         replace S1 := S1.put (by decide : 40 < 75) (undef)
         intro v_262 hF_263
         obtain rfl := cndF.neg hF_263 hc3
         replace S1 := S1.put (by decide : 41 < 75) (undef)
         intro v_265 hF_264; obtain rfl : .bool q_53 = v_265 := Eq.symm hF_264
         replace S1 := S1.put (by decide : 39 < 75) (.bool q_53)
         refine fill_nil S1 ?_; clear S1; intro a_ S1
         rw [show q_53 = true from hl3] at S1
         exact RPost.one (v := undef) S1 tys tys_ok rfl (by kernel_rfl) S.defers ⟨fun k_ => absurd k_ hc3, fun _ => rfl⟩ (Below.refl _ _)
       refine RunAll.cons (cndF q_53 false (eqv (.pointer (some ((⟨b_32, 0, .none⟩ : Addr).add (coff gf0 0)))))) [(eqv (.bool q_53), 39)] rfl rfl ?_ ?_
       ·intro W_ hW
        by_cases hc3 : q_53 = false
        ·have hl3 : q_53 = false := hc3
         have S1 := S
         intro v_267 hF_266; obtain rfl : .bool q_53 = v_267 := Eq.symm hF_266
         replace S1 := S1.put (by decide : 39 < 75) (.bool q_53)
         refine fill_nil S1 ?_; clear S1; intro a_ S1
         replace B_33 := B_33.step hW
         rw [show q_53 = false from hl3] at S1
         exact RPost.one (v := .pointer (some ((⟨b_32, 0, .none⟩ : Addr).add (coff gf0 0)))) S1 tys tys_ok rfl (by kernel_rfl) S.defers ⟨fun _ => rfl, fun k_ => absurd hc3 k_⟩ (Below.refl _ _)
        ·have hl3 : q_53 = true := (by simpa using hc3)
         have S1 := S
         intro v_269 hF_268; obtain rfl : .bool q_53 = v_269 := Eq.symm hF_268
         replace S1 := S1.put (by decide : 39 < 75) (.bool q_53)
         refine fill_nil S1 ?_; clear S1; intro a_ S1
         rw [show q_53 = true from hl3] at S1
         exact RPost.one (v := undef) S1 tys tys_ok rfl (by kernel_rfl) S.defers ⟨fun k_ => absurd k_ hc3, fun _ => rfl⟩ (Below.refl _ _)
       refine RunAll.cons (cndF q_53 false (isRep (.sl (.int .u8)) (Kx K w.heap.size [some b_32, some b_8, some v_3]) y_26.1)) [(cndF q_53 false (eqv (.pointer (some ((⟨b_32, 0, .none⟩ : Addr).add (coff gf0 0))))), 43), (eqv (.bool q_53), 39)] rfl rfl ?_ ?_
       ·intro W_ hW
        by_cases hc3 : q_53 = false
        ·have hl3 : q_53 = false := hc3
         have S1 := S
         intro v_270 hF_271
         replace hF_271 := cndF.pos hF_271 hc3
         revert hF_271
         revert v_270
         intro v_273 hF_272; obtain rfl : .pointer (some ((⟨b_32, 0, .none⟩ : Addr).add (coff gf0 0))) = v_273 := Eq.symm hF_272
         replace S1 := S1.put (by decide : 43 < 75) (.pointer (some ((⟨b_32, 0, .none⟩ : Addr).add (coff gf0 0))))
         intro v_275 hF_274; obtain rfl : .bool q_53 = v_275 := Eq.symm hF_274
         replace S1 := S1.put (by decide : 39 < 75) (.bool q_53)
         refine fill_nil S1 ?_; clear S1; intro a_ S1
         replace B_33 := B_33.step hW
         rw [show q_53 = false from hl3] at S1
         have S0 := S.defers; replace S := S1; clear S1
         obtain ⟨es_68, et_71, _⟩ := (HG_65).1 hc3
         refine w_go S rfl (op_load (t := (.sl (.int .u8))) (x := y_26.1) S rfl ty25 rfl rfl rfl (RepAt.add 0 (RepAt.st (t := gf0) B_33.at_)) ?_)
         clear S; intro a v_276 R_277 S
         refine wpList_nil ?_
         exact RPost.mk_ S rfl S0 ⟨fun _ => R_277, fun k_ => absurd hc3 k_⟩ (Below.refl _ _)
        ·have hl3 : q_53 = true := (by simpa using hc3)
         have S1 := S
         intro v_278 hF_279
         obtain rfl := cndF.neg hF_279 hc3
         replace S1 := S1.put (by decide : 43 < 75) (undef)
         intro v_281 hF_280; obtain rfl : .bool q_53 = v_281 := Eq.symm hF_280
         replace S1 := S1.put (by decide : 39 < 75) (.bool q_53)
         refine fill_nil S1 ?_; clear S1; intro a_ S1
         rw [show q_53 = true from hl3] at S1
         exact RPost.one (v := undef) S1 tys tys_ok rfl (by kernel_rfl) S.defers ⟨fun k_ => absurd k_ hc3, fun _ => rfl⟩ (Below.refl _ _)
       refine RunAll.cons (cndF q_53 false (eqv (.bool t_71))) [(cndF q_53 false (isRep (.sl gt0) (Kx K w.heap.size [some b_32, some b_8, some v_3]) s_68), 42), (cndF q_53 false (isRep (.sl (.int .u8)) (Kx K w.heap.size [some b_32, some b_8, some v_3]) y_26.1), 44), (eqv (.bool q_53), 39)] rfl rfl ?_ ?_
       ·intro W_ hW
        by_cases hc3 : q_53 = false
        ·have hl3 : q_53 = false := hc3
         have S1 := S
         intro v_282 hF_283
         replace hF_283 := cndF.pos hF_283 hc3
         revert hF_283
         revert v_282
         intro v_285 hF_284; replace hF_284 : RepV _ _ _ _ _ := hF_284
         replace S1 := S1.put (by decide : 42 < 75) (v_285)
         intro v_286 hF_287
         replace hF_287 := cndF.pos hF_287 hc3
         revert hF_287
         revert v_286
         intro v_289 hF_288; replace hF_288 : RepV _ _ _ _ _ := hF_288
         replace S1 := S1.put (by decide : 44 < 75) (v_289)
         intro v_291 hF_290; obtain rfl : .bool q_53 = v_291 := Eq.symm hF_290
         replace S1 := S1.put (by decide : 39 < 75) (.bool q_53)
         refine fill_nil S1 ?_; clear S1; intro a_ S1
         replace W := W.step hW
         rw [show q_53 = false from hl3] at S1
         have S0 := S.defers; replace S := S1; clear S1
         obtain ⟨es_68, et_71, _⟩ := (HG_65).1 hc3
         refine w_go S rfl (op_call (vs := [v_285, v_289]) S rfl cb34 rfl rfl rfl (c34 (Kx K w.heap.size [some b_32, some b_8, some v_3]) n W_ s_68 _ hF_284 y_26.1 _ hF_288 et_71) ?_)
         rintro _ w_295 ⟨v_292, rfl, R_293, hb_294⟩; refine ⟨_, rfl, ?_⟩
         replace R_293 := RepV.back R_293 W
         clear S; intro a S
         obtain rfl := RepV.bool R_293
         refine wpList_nil ?_
         exact RPost.mk_ S rfl S0 ⟨fun _ => rfl, fun k_ => absurd hc3 k_⟩ (hb_294)
        ·have hl3 : q_53 = true := (by simpa using hc3)
         have S1 := S
         intro v_296 hF_297
         obtain rfl := cndF.neg hF_297 hc3
         replace S1 := S1.put (by decide : 42 < 75) (undef)
         intro v_298 hF_299
         obtain rfl := cndF.neg hF_299 hc3
         replace S1 := S1.put (by decide : 44 < 75) (undef)
         intro v_301 hF_300; obtain rfl : .bool q_53 = v_301 := Eq.symm hF_300
         replace S1 := S1.put (by decide : 39 < 75) (.bool q_53)
         refine fill_nil S1 ?_; clear S1; intro a_ S1
         rw [show q_53 = true from hl3] at S1
         exact RPost.one (v := undef) S1 tys tys_ok rfl (by kernel_rfl) S.defers ⟨fun k_ => absurd k_ hc3, fun _ => rfl⟩ (Below.refl _ _)
       refine RunAll.cons (cndF q_53 false (eqv (.bool (!t_71)))) [(cndF q_53 false (eqv (.bool t_71)), 45), (eqv (.bool q_53), 39)] rfl rfl ?_ ?_
       ·intro W_ hW
        by_cases hc3 : q_53 = false
        ·have hl3 : q_53 = false := hc3
         have S1 := S
         intro v_302 hF_303
         replace hF_303 := cndF.pos hF_303 hc3
         revert hF_303
         revert v_302
         intro v_305 hF_304; obtain rfl : .bool t_71 = v_305 := Eq.symm hF_304
         replace S1 := S1.put (by decide : 45 < 75) (.bool t_71)
         intro v_307 hF_306; obtain rfl : .bool q_53 = v_307 := Eq.symm hF_306
         replace S1 := S1.put (by decide : 39 < 75) (.bool q_53)
         refine fill_nil S1 ?_; clear S1; intro a_ S1
         rw [show q_53 = false from hl3] at S1
         exact RPost.one (v := .bool (!t_71)) S1 tys tys_ok rfl (by kernel_rfl) S.defers ⟨fun _ => rfl, fun k_ => absurd hc3 k_⟩ (Below.refl _ _)
        ·have hl3 : q_53 = true := (by simpa using hc3)
         have S1 := S
         intro v_308 hF_309
         obtain rfl := cndF.neg hF_309 hc3
         replace S1 := S1.put (by decide : 45 < 75) (undef)
         intro v_311 hF_310; obtain rfl : .bool q_53 = v_311 := Eq.symm hF_310
         replace S1 := S1.put (by decide : 39 < 75) (.bool q_53)
         refine fill_nil S1 ?_; clear S1; intro a_ S1
         rw [show q_53 = true from hl3] at S1
         exact RPost.one (v := undef) S1 tys tys_ok rfl (by kernel_rfl) S.defers ⟨fun k_ => absurd k_ hc3, fun _ => rfl⟩ (Below.refl _ _)
       refine RunAll.cons (eqv (.bool q_64)) [(eqv (.bool q_53), 39), (cndF q_53 false (eqv (.bool (!t_71))), 46)] rfl rfl ?_ ?_
       ·intro W_ hW
        by_cases hc3 : q_53 = false
        ·have hl3 : q_53 = false := hc3
         have S1 := S
         intro v_313 hF_312; obtain rfl : .bool q_53 = v_313 := Eq.symm hF_312
         replace S1 := S1.put (by decide : 39 < 75) (.bool q_53)
         intro v_314 hF_315
         replace hF_315 := cndF.pos hF_315 hc3
         revert hF_315
         revert v_314
         intro v_317 hF_316; obtain rfl : .bool (!t_71) = v_317 := Eq.symm hF_316
         replace S1 := S1.put (by decide : 46 < 75) (.bool (!t_71))
         refine fill_nil S1 ?_; clear S1; intro a_ S1
         rw [show q_53 = false from hl3] at S1
         exact RPost.one (v := .bool (!t_71)) S1 tys tys_ok rfl (by kernel_rfl) S.defers (congrArg Value.bool ((HG_65).1 hc3).2.2) (Below.refl _ _)
        ·have hl3 : q_53 = true := (by simpa using hc3)
         have S1 := S
         intro v_319 hF_318; obtain rfl : .bool q_53 = v_319 := Eq.symm hF_318
         replace S1 := S1.put (by decide : 39 < 75) (.bool q_53)
         intro v_320 hF_321
         obtain rfl := cndF.neg hF_321 hc3
         replace S1 := S1.put (by decide : 46 < 75) (undef)
         refine fill_nil S1 ?_; clear S1; intro a_ S1
         rw [show q_53 = true from hl3] at S1
         exact RPost.one (v := .bool true) S1 tys tys_ok rfl (by kernel_rfl) S.defers (congrArg Value.bool ((HG_65).2 hc3)) (Below.refl _ _)
       exact trivial
      intro w_322 hb_323
      refine EndE.some_ rfl ?_
      intro v_325 hF_324; obtain rfl : .pointer (some ((⟨b_32, 0, .none⟩ : Addr).add (coff gf0 0))) = v_325 := Eq.symm hF_324
      replace S := S.put (by decide : 17 < 75) (.pointer (some ((⟨b_32, 0, .none⟩ : Addr).add (coff gf0 0))))
      refine EndE.some_ rfl ?_
      intro v_327 hF_326; replace hF_326 : RepV _ _ _ _ _ := hF_326
      replace S := S.put (by decide : 18 < 75) (v_327)
      refine EndE.some_ rfl ?_
      intro v_329 hF_328; obtain rfl : .bool t_40 = v_329 := Eq.symm hF_328
      replace S := S.put (by decide : 19 < 75) (.bool t_40)
      refine EndE.some_ rfl ?_
      intro v_331 hF_330; obtain rfl : .bool (!t_40) = v_331 := Eq.symm hF_330
      replace S := S.put (by decide : 20 < 75) (.bool (!t_40))
      refine EndE.some_ rfl ?_
      intro v_333 hF_332; obtain rfl : .bool (!t_40) = v_333 := Eq.symm hF_332
      replace S := S.put (by decide : 21 < 75) (.bool (!t_40))
      refine EndE.some_ rfl ?_
      intro v_334 _
      replace S := S.put (by decide : 22 < 75) (v_334)
      refine EndE.some_ rfl ?_
      intro v_335 _
      replace S := S.put (by decide : 23 < 75) (v_335)
      refine EndE.some_ rfl ?_
      intro v_336 _
      replace S := S.put (by decide : 24 < 75) (v_336)
      refine EndE.some_ rfl ?_
      intro v_338 hF_337; obtain rfl : .bool q_45 = v_338 := Eq.symm hF_337
      replace S := S.put (by decide : 25 < 75) (.bool q_45)
      refine EndE.some_ rfl ?_
      intro v_340 hF_339; obtain rfl : .bool q_45 = v_340 := Eq.symm hF_339
      replace S := S.put (by decide : 26 < 75) (.bool q_45)
      refine EndE.some_ rfl ?_
      intro v_341 _
      replace S := S.put (by decide : 27 < 75) (v_341)
      refine EndE.some_ rfl ?_
      intro v_342 _
      replace S := S.put (by decide : 28 < 75) (v_342)
      refine EndE.some_ rfl ?_
      intro v_343 _
      replace S := S.put (by decide : 29 < 75) (v_343)
      refine EndE.some_ rfl ?_
      intro v_345 hF_344; obtain rfl : .bool q_49 = v_345 := Eq.symm hF_344
      replace S := S.put (by decide : 30 < 75) (.bool q_49)
      refine EndE.some_ rfl ?_
      intro v_347 hF_346; obtain rfl : .bool q_49 = v_347 := Eq.symm hF_346
      replace S := S.put (by decide : 31 < 75) (.bool q_49)
      refine EndE.some_ rfl ?_
      intro v_348 _
      replace S := S.put (by decide : 32 < 75) (v_348)
      refine EndE.some_ rfl ?_
      intro v_349 _
      replace S := S.put (by decide : 33 < 75) (v_349)
      refine EndE.some_ rfl ?_
      intro v_350 _
      replace S := S.put (by decide : 34 < 75) (v_350)
      refine EndE.some_ rfl ?_
      intro v_351 _
      replace S := S.put (by decide : 35 < 75) (v_351)
      refine EndE.some_ rfl ?_
      intro v_352 _
      replace S := S.put (by decide : 36 < 75) (v_352)
      refine EndE.some_ rfl ?_
      intro v_353 _
      replace S := S.put (by decide : 37 < 75) (v_353)
      refine EndE.some_ rfl ?_
      intro v_355 hF_354; obtain rfl : .bool q_53 = v_355 := Eq.symm hF_354
      replace S := S.put (by decide : 38 < 75) (.bool q_53)
      refine EndE.some_ rfl ?_
      intro v_357 hF_356; obtain rfl : .bool q_53 = v_357 := Eq.symm hF_356
      replace S := S.put (by decide : 39 < 75) (.bool q_53)
      refine EndE.some_ rfl ?_
      intro v_358 _
      replace S := S.put (by decide : 40 < 75) (v_358)
      refine EndE.some_ rfl ?_
      intro v_359 _
      replace S := S.put (by decide : 41 < 75) (v_359)
      refine EndE.some_ rfl ?_
      intro v_360 _
      replace S := S.put (by decide : 42 < 75) (v_360)
      refine EndE.some_ rfl ?_
      intro v_361 _
      replace S := S.put (by decide : 43 < 75) (v_361)
      refine EndE.some_ rfl ?_
      intro v_362 _
      replace S := S.put (by decide : 44 < 75) (v_362)
      refine EndE.some_ rfl ?_
      intro v_363 _
      replace S := S.put (by decide : 45 < 75) (v_363)
      refine EndE.some_ rfl ?_
      intro v_364 _
      replace S := S.put (by decide : 46 < 75) (v_364)
      refine EndE.some_ rfl ?_
      intro v_366 hF_365; obtain rfl : .bool q_64 = v_366 := Eq.symm hF_365
      replace S := S.put (by decide : 47 < 75) (.bool q_64)
      refine endE_nil S ?_; clear S; intro a S
      replace R0 := R0.step hb_323
      replace R_4 := R_4.step hb_323
      replace B_9 := B_9.step hb_323
      replace B_33 := B_33.step hb_323
      replace W := W.step hb_323
      refine then_n ?_
      replace S := S.sub (l' := [(47, .bool q_64), (4, .int .i64 c_15), (5, pB b_32), (12, .int .i64 c_15), (11, .int .i64 (lenI x0)), (10, v0), (3, pB b_8), (0, v0)]) (by exact ⟨rfl, rfl, rfl, rfl, rfl, rfl, rfl, rfl, trivial⟩)
      refine wp_cond_split (S.eval (show ev _ _ = some (.bool q_64) from rfl)) ?_ ?_
      ·intro hc
       rw [if_pos hc] at hl_24
       refine wp_seq ?_
       refine wp_region_lit ?_
       refine wl_pureK (l' := [(2, .int .i64 1)]) S tys tys_ok 1 [2] (by kernel_rfl) ?_
       clear S; intro a S
       refine wpList_nil ?_
       refine then_n ?_
       refine wp_ret ?_
       refine then_r ?_
       refine blk_r ?_
       refine then_r ?_
       refine then_r ?_
       refine blk_r ?_
       refine then_r ?_
       refine then_r ?_
       obtain rfl := Option.some.inj hl_24
       obtain rfl := lr_inr h
       exact b_ret1 S rfl rfl ⟨_, rfl, (RepV.mkInt (by decide)), W.below⟩
      ·intro hc
       rw [if_neg (Bool.eq_false_iff.1 hc)] at hl_24
       refine wp_skip ?_
       refine then_n ?_
       replace S := S.sub (l' := [(4, .int .i64 c_15), (5, pB b_32), (12, .int .i64 c_15), (11, .int .i64 (lenI x0)), (10, v0), (3, pB b_8), (0, v0)]) (by exact ⟨rfl, rfl, rfl, rfl, rfl, rfl, rfl, trivial⟩)
       refine wp_seq ?_
       obtain ⟨j_367, ej_367, hl_24⟩ := bindS hl_24
       refine wp_cut_ (fun a_ w_ => St 75 a_ [(12, .int .i64 c_15), (11, .int .i64 (lenI x0)), (10, v0), (3, pB b_8), (0, v0), (73, .bool j_367.1)] ∧ Wd w w_ [some b_32, some b_8, some v_3] ∧ RepV (.sl gt0) w_ (Kx K w.heap.size [some b_32, some b_8, some v_3]) v0 x0 ∧ Mp .u8 w_ v_3 j_367.2 ∧ Ox (.cells #[.map (some v_3)] 72 (0, 0)) w_ b_8 ∧ Bx gt0 33 w_ (Kx K w.heap.size [some b_32, some b_8, some v_3]) b_32 y_26) ?_ ?_
       ·
        replace S : St 75 a [(4, .int .i64 c_15), (5, pB b_32), (12, .int .i64 c_15), (11, .int .i64 (lenI x0)), (10, v0), (3, pB b_8), (0, v0)] := S.sub (by exact ⟨rfl, rfl, rfl, rfl, rfl, rfl, rfl, trivial⟩)
        refine wp_region_ord 26 (by kernel_rfl) rfl (by repeat (first | exact hq_body | refine hq_then ?_ | refine hq_blk ?_)) ?_; intro w_368 hb_369 hQ_
        replace R0 := R0.step hb_369
        replace R_4 := R_4.step hb_369
        replace B_9 := B_9.step hb_369
        replace B_33 := B_33.step hb_369
        replace W := W.step hb_369
        by_cases hc_370 : (decide (c_15 > 0)) = true
        ·
         rw [if_pos hc_370] at ej_367
         obtain ⟨x_371, ex_371, ej_367⟩ := bindS ej_367
         obtain ⟨y_372, ey_372, ej_367⟩ := bindS ej_367
         obtain ⟨t_380, et_380, ej_367⟩ := bindS ej_367
         by_cases hc_385 : (decide (t_380 ≥ 0)) = true
         ·
          rw [if_pos hc_385] at ej_367
          obtain rfl := Option.some.inj ej_367
          refine an_pures (k := 23) (l1 := [(50, .bool (decide (c_15 > 0))), (49, .bool (decide (c_15 > 0))), (48, .int .i64 c_15), (4, .int .i64 c_15), (5, pB b_32), (12, .int .i64 c_15), (11, .int .i64 (lenI x0)), (10, v0), (3, pB b_8), (0, v0)]) tys tys_ok (by kernel_rfl) hQ_ [0, 1, 2] S (by kernel_rfl) (by kernel_rfl) ?_; clear S; intro a S
          rw [show (decide (c_15 > 0)) = true from hc_370] at S
          refine an_pures (k := 20) (l1 := [(57, .pointer (some ((⟨b_32, 0, .none⟩ : Addr).add (coff gf0 0)))), (52, .int .i64 c_15), (51, v0), (50, .bool true), (49, .bool true), (48, .int .i64 c_15), (4, .int .i64 c_15), (5, pB b_32), (12, .int .i64 c_15), (11, .int .i64 (lenI x0)), (10, v0), (3, pB b_8), (0, v0)]) tys tys_ok (by kernel_rfl) hQ_ [3, 4, 9] S (by kernel_rfl) (by kernel_rfl) ?_; clear S; intro a S
          refine an_fork (k := 19) (is := [5, 10]) (by kernel_rfl) rfl ⟨?_, ?_, trivial⟩
          ·
           refine an_step (i := 5) rfl S rfl (op_arith S .i64 (c_15 - 1) rfl (.inr (.inl rfl)) rfl rfl rfl rfl ex_371 ?_)
           clear S; intro a S
           refine an_first (k := 18) (i := 6) (by kernel_rfl) hQ_ (by kernel_rfl) rfl rfl S rfl (op_indexAddr S rfl ty23 rfl rfl rfl R0 rfl ey_372 ?_)
           clear S; intro a p_386 R_387 H_388 S
           intro _
           refine an_pures (k := 17) (l1 := [(55, .pointer (some (p_386.add (coff gf0 0)))), (54, .pointer (some p_386)), (53, .int .i64 x_371), (57, .pointer (some ((⟨b_32, 0, .none⟩ : Addr).add (coff gf0 0)))), (52, .int .i64 c_15), (51, v0), (50, .bool true), (49, .bool true), (48, .int .i64 c_15), (4, .int .i64 c_15), (5, pB b_32), (12, .int .i64 c_15), (11, .int .i64 (lenI x0)), (10, v0), (3, pB b_8), (0, v0)]) tys tys_ok (by kernel_rfl) hQ_ [7] S (by kernel_rfl) (by kernel_rfl) ?_; clear S; intro a S
           refine an_fork (k := 16) (is := [8, 10]) (by kernel_rfl) rfl ⟨?_, ?_, trivial⟩
           ·
            refine an_step (i := 8) rfl S rfl (op_load (t := (.sl (.int .u8))) (x := y_372.1) S rfl ty25 rfl rfl rfl (RepAt.add 0 (RepAt.st (t := gf0) R_387)) ?_)
            clear S; intro a v_389 R_390 S
            refine an_go (k := 15) (i := 10) (by kernel_rfl) rfl S rfl (op_load (t := (.sl (.int .u8))) (x := y_26.1) S rfl ty25 rfl rfl rfl (RepAt.add 0 (RepAt.st (t := gf0) B_33.at_)) ?_)
            clear S; intro a v_391 R_392 S
            refine an_go (k := 14) (i := 11) (by kernel_rfl) rfl S rfl (op_call (vs := [v_389, v_391]) S rfl cb35 rfl rfl rfl (c35 (Kx K w.heap.size [some b_32, some b_8, some v_3]) n w_368 y_372.1 _ R_390 y_26.1 _ R_392 et_380) ?_)
            rintro _ w_396 ⟨v_393, rfl, R_394, hb_395⟩; refine ⟨_, rfl, ?_⟩
            replace R_394 := RepV.back R_394 W
            clear S; intro a S
            replace R0 := R0.step hb_395
            replace R_390 := R_390.step hb_395
            replace R_392 := R_392.step hb_395
            replace R_4 := R_4.step hb_395
            replace B_9 := B_9.step hb_395
            replace B_33 := B_33.step hb_395
            replace W := W.step hb_395
            obtain ⟨rfl, GR_394⟩ := RepV.int R_394
            refine an_pures (k := 11) (l1 := [(62, .bool (decide (t_380 ≥ 0))), (61, .bool (decide (t_380 ≥ 0))), (60, .bool (decide (t_380 ≥ 0))), (59, .int .i64 t_380), (58, v_391), (56, v_389), (55, .pointer (some (p_386.add (coff gf0 0)))), (54, .pointer (some p_386)), (53, .int .i64 x_371), (57, .pointer (some ((⟨b_32, 0, .none⟩ : Addr).add (coff gf0 0)))), (52, .int .i64 c_15), (51, v0), (50, .bool true), (49, .bool true), (48, .int .i64 c_15), (4, .int .i64 c_15), (5, pB b_32), (12, .int .i64 c_15), (11, .int .i64 (lenI x0)), (10, v0), (3, pB b_8), (0, v0)]) tys tys_ok (by kernel_rfl) hQ_ [12, 13, 14] S (by kernel_rfl) (by kernel_rfl) ?_; clear S; intro a S
            rw [show (decide (t_380 ≥ 0)) = true from hc_385] at S
            refine an_pures (k := 0) (l1 := [(73, .bool true), (72, undef), (71, undef), (70, undef), (69, undef), (68, undef), (67, undef), (66, undef), (65, undef), (64, undef), (63, undef), (62, .bool true), (61, .bool true), (60, .bool true), (59, .int .i64 t_380), (58, v_391), (56, v_389), (55, .pointer (some (p_386.add (coff gf0 0)))), (54, .pointer (some p_386)), (53, .int .i64 x_371), (57, .pointer (some ((⟨b_32, 0, .none⟩ : Addr).add (coff gf0 0)))), (52, .int .i64 c_15), (51, v0), (50, .bool true), (49, .bool true), (48, .int .i64 c_15), (4, .int .i64 c_15), (5, pB b_32), (12, .int .i64 c_15), (11, .int .i64 (lenI x0)), (10, v0), (3, pB b_8), (0, v0)]) tys tys_ok (by kernel_rfl) hQ_ [15, 16, 17, 18, 19, 20, 21, 22, 23, 24, 25] S (by kernel_rfl) (by kernel_rfl) ?_; clear S; intro a S
            refine an_end (by kernel_rfl) ?_
            refine then_n ?_
            exact ⟨S.sub (by exact ⟨rfl, rfl, rfl, rfl, rfl, rfl, trivial⟩), W, R0, R_4, B_9, B_33⟩
           ·
            refine an_step (i := 10) rfl S rfl (op_load (t := (.sl (.int .u8))) (x := y_26.1) S rfl ty25 rfl rfl rfl (RepAt.add 0 (RepAt.st (t := gf0) B_33.at_)) ?_)
            clear S; intro a v_397 R_398 S
            refine an_go (k := 15) (i := 8) (by kernel_rfl) rfl S rfl (op_load (t := (.sl (.int .u8))) (x := y_372.1) S rfl ty25 rfl rfl rfl (RepAt.add 0 (RepAt.st (t := gf0) R_387)) ?_)
            clear S; intro a v_399 R_400 S
            refine an_go (k := 14) (i := 11) (by kernel_rfl) rfl S rfl (op_call (vs := [v_399, v_397]) S rfl cb35 rfl rfl rfl (c35 (Kx K w.heap.size [some b_32, some b_8, some v_3]) n w_368 y_372.1 _ R_400 y_26.1 _ R_398 et_380) ?_)
            rintro _ w_404 ⟨v_401, rfl, R_402, hb_403⟩; refine ⟨_, rfl, ?_⟩
            replace R_402 := RepV.back R_402 W
            clear S; intro a S
            replace R0 := R0.step hb_403
            replace R_398 := R_398.step hb_403
            replace R_400 := R_400.step hb_403
            replace R_4 := R_4.step hb_403
            replace B_9 := B_9.step hb_403
            replace B_33 := B_33.step hb_403
            replace W := W.step hb_403
            obtain ⟨rfl, GR_402⟩ := RepV.int R_402
            refine an_pures (k := 11) (l1 := [(62, .bool (decide (t_380 ≥ 0))), (61, .bool (decide (t_380 ≥ 0))), (60, .bool (decide (t_380 ≥ 0))), (59, .int .i64 t_380), (56, v_399), (58, v_397), (55, .pointer (some (p_386.add (coff gf0 0)))), (54, .pointer (some p_386)), (53, .int .i64 x_371), (57, .pointer (some ((⟨b_32, 0, .none⟩ : Addr).add (coff gf0 0)))), (52, .int .i64 c_15), (51, v0), (50, .bool true), (49, .bool true), (48, .int .i64 c_15), (4, .int .i64 c_15), (5, pB b_32), (12, .int .i64 c_15), (11, .int .i64 (lenI x0)), (10, v0), (3, pB b_8), (0, v0)]) tys tys_ok (by kernel_rfl) hQ_ [12, 13, 14] S (by kernel_rfl) (by kernel_rfl) ?_; clear S; intro a S
            rw [show (decide (t_380 ≥ 0)) = true from hc_385] at S
            refine an_pures (k := 0) (l1 := [(73, .bool true), (72, undef), (71, undef), (70, undef), (69, undef), (68, undef), (67, undef), (66, undef), (65, undef), (64, undef), (63, undef), (62, .bool true), (61, .bool true), (60, .bool true), (59, .int .i64 t_380), (56, v_399), (58, v_397), (55, .pointer (some (p_386.add (coff gf0 0)))), (54, .pointer (some p_386)), (53, .int .i64 x_371), (57, .pointer (some ((⟨b_32, 0, .none⟩ : Addr).add (coff gf0 0)))), (52, .int .i64 c_15), (51, v0), (50, .bool true), (49, .bool true), (48, .int .i64 c_15), (4, .int .i64 c_15), (5, pB b_32), (12, .int .i64 c_15), (11, .int .i64 (lenI x0)), (10, v0), (3, pB b_8), (0, v0)]) tys tys_ok (by kernel_rfl) hQ_ [15, 16, 17, 18, 19, 20, 21, 22, 23, 24, 25] S (by kernel_rfl) (by kernel_rfl) ?_; clear S; intro a S
            refine an_end (by kernel_rfl) ?_
            refine then_n ?_
            exact ⟨S.sub (by exact ⟨rfl, rfl, rfl, rfl, rfl, rfl, trivial⟩), W, R0, R_4, B_9, B_33⟩
          ·
           refine an_step (i := 10) rfl S rfl (op_load (t := (.sl (.int .u8))) (x := y_26.1) S rfl ty25 rfl rfl rfl (RepAt.add 0 (RepAt.st (t := gf0) B_33.at_)) ?_)
           clear S; intro a v_405 R_406 S
           refine an_go (k := 18) (i := 5) (by kernel_rfl) rfl S rfl (op_arith S .i64 (c_15 - 1) rfl (.inr (.inl rfl)) rfl rfl rfl rfl ex_371 ?_)
           clear S; intro a S
           refine an_go (k := 17) (i := 6) (by kernel_rfl) rfl S rfl (op_indexAddr S rfl ty23 rfl rfl rfl R0 rfl ey_372 ?_)
           clear S; intro a p_407 R_408 H_409 S
           refine an_pures (k := 16) (l1 := [(55, .pointer (some (p_407.add (coff gf0 0)))), (54, .pointer (some p_407)), (53, .int .i64 x_371), (58, v_405), (57, .pointer (some ((⟨b_32, 0, .none⟩ : Addr).add (coff gf0 0)))), (52, .int .i64 c_15), (51, v0), (50, .bool true), (49, .bool true), (48, .int .i64 c_15), (4, .int .i64 c_15), (5, pB b_32), (12, .int .i64 c_15), (11, .int .i64 (lenI x0)), (10, v0), (3, pB b_8), (0, v0)]) tys tys_ok (by kernel_rfl) hQ_ [7] S (by kernel_rfl) (by kernel_rfl) ?_; clear S; intro a S
           refine an_go (k := 15) (i := 8) (by kernel_rfl) rfl S rfl (op_load (t := (.sl (.int .u8))) (x := y_372.1) S rfl ty25 rfl rfl rfl (RepAt.add 0 (RepAt.st (t := gf0) R_408)) ?_)
           clear S; intro a v_410 R_411 S
           refine an_go (k := 14) (i := 11) (by kernel_rfl) rfl S rfl (op_call (vs := [v_410, v_405]) S rfl cb35 rfl rfl rfl (c35 (Kx K w.heap.size [some b_32, some b_8, some v_3]) n w_368 y_372.1 _ R_411 y_26.1 _ R_406 et_380) ?_)
           rintro _ w_415 ⟨v_412, rfl, R_413, hb_414⟩; refine ⟨_, rfl, ?_⟩
           replace R_413 := RepV.back R_413 W
           clear S; intro a S
           replace R0 := R0.step hb_414
           replace R_406 := R_406.step hb_414
           replace R_411 := R_411.step hb_414
           replace R_4 := R_4.step hb_414
           replace B_9 := B_9.step hb_414
           replace B_33 := B_33.step hb_414
           replace W := W.step hb_414
           obtain ⟨rfl, GR_413⟩ := RepV.int R_413
           refine an_pures (k := 11) (l1 := [(62, .bool (decide (t_380 ≥ 0))), (61, .bool (decide (t_380 ≥ 0))), (60, .bool (decide (t_380 ≥ 0))), (59, .int .i64 t_380), (56, v_410), (55, .pointer (some (p_407.add (coff gf0 0)))), (54, .pointer (some p_407)), (53, .int .i64 x_371), (58, v_405), (57, .pointer (some ((⟨b_32, 0, .none⟩ : Addr).add (coff gf0 0)))), (52, .int .i64 c_15), (51, v0), (50, .bool true), (49, .bool true), (48, .int .i64 c_15), (4, .int .i64 c_15), (5, pB b_32), (12, .int .i64 c_15), (11, .int .i64 (lenI x0)), (10, v0), (3, pB b_8), (0, v0)]) tys tys_ok (by kernel_rfl) hQ_ [12, 13, 14] S (by kernel_rfl) (by kernel_rfl) ?_; clear S; intro a S
           rw [show (decide (t_380 ≥ 0)) = true from hc_385] at S
           refine an_pures (k := 0) (l1 := [(73, .bool true), (72, undef), (71, undef), (70, undef), (69, undef), (68, undef), (67, undef), (66, undef), (65, undef), (64, undef), (63, undef), (62, .bool true), (61, .bool true), (60, .bool true), (59, .int .i64 t_380), (56, v_410), (55, .pointer (some (p_407.add (coff gf0 0)))), (54, .pointer (some p_407)), (53, .int .i64 x_371), (58, v_405), (57, .pointer (some ((⟨b_32, 0, .none⟩ : Addr).add (coff gf0 0)))), (52, .int .i64 c_15), (51, v0), (50, .bool true), (49, .bool true), (48, .int .i64 c_15), (4, .int .i64 c_15), (5, pB b_32), (12, .int .i64 c_15), (11, .int .i64 (lenI x0)), (10, v0), (3, pB b_8), (0, v0)]) tys tys_ok (by kernel_rfl) hQ_ [15, 16, 17, 18, 19, 20, 21, 22, 23, 24, 25] S (by kernel_rfl) (by kernel_rfl) ?_; clear S; intro a S
           refine an_end (by kernel_rfl) ?_
           refine then_n ?_
           exact ⟨S.sub (by exact ⟨rfl, rfl, rfl, rfl, rfl, rfl, trivial⟩), W, R0, R_4, B_9, B_33⟩
         ·
          rw [if_neg hc_385] at ej_367
          by_cases hc_418 : (y_26.2.1 == 2) = true
          ·
           rw [if_pos hc_418] at ej_367
           obtain ⟨t_421, et_421, ej_367⟩ := bindS ej_367
           obtain rfl := Option.some.inj ej_367
           refine an_pures (k := 23) (l1 := [(50, .bool (decide (c_15 > 0))), (49, .bool (decide (c_15 > 0))), (48, .int .i64 c_15), (4, .int .i64 c_15), (5, pB b_32), (12, .int .i64 c_15), (11, .int .i64 (lenI x0)), (10, v0), (3, pB b_8), (0, v0)]) tys tys_ok (by kernel_rfl) hQ_ [0, 1, 2] S (by kernel_rfl) (by kernel_rfl) ?_; clear S; intro a S
           rw [show (decide (c_15 > 0)) = true from hc_370] at S
           refine an_pures (k := 20) (l1 := [(57, .pointer (some ((⟨b_32, 0, .none⟩ : Addr).add (coff gf0 0)))), (52, .int .i64 c_15), (51, v0), (50, .bool true), (49, .bool true), (48, .int .i64 c_15), (4, .int .i64 c_15), (5, pB b_32), (12, .int .i64 c_15), (11, .int .i64 (lenI x0)), (10, v0), (3, pB b_8), (0, v0)]) tys tys_ok (by kernel_rfl) hQ_ [3, 4, 9] S (by kernel_rfl) (by kernel_rfl) ?_; clear S; intro a S
           refine an_fork (k := 19) (is := [5, 10]) (by kernel_rfl) rfl ⟨?_, ?_, trivial⟩
           ·
            refine an_step (i := 5) rfl S rfl (op_arith S .i64 (c_15 - 1) rfl (.inr (.inl rfl)) rfl rfl rfl rfl ex_371 ?_)
            clear S; intro a S
            refine an_first (k := 18) (i := 6) (by kernel_rfl) hQ_ (by kernel_rfl) rfl rfl S rfl (op_indexAddr S rfl ty23 rfl rfl rfl R0 rfl ey_372 ?_)
            clear S; intro a p_427 R_428 H_429 S
            intro _
            refine an_pures (k := 17) (l1 := [(55, .pointer (some (p_427.add (coff gf0 0)))), (54, .pointer (some p_427)), (53, .int .i64 x_371), (57, .pointer (some ((⟨b_32, 0, .none⟩ : Addr).add (coff gf0 0)))), (52, .int .i64 c_15), (51, v0), (50, .bool true), (49, .bool true), (48, .int .i64 c_15), (4, .int .i64 c_15), (5, pB b_32), (12, .int .i64 c_15), (11, .int .i64 (lenI x0)), (10, v0), (3, pB b_8), (0, v0)]) tys tys_ok (by kernel_rfl) hQ_ [7] S (by kernel_rfl) (by kernel_rfl) ?_; clear S; intro a S
            refine an_fork (k := 16) (is := [8, 10]) (by kernel_rfl) rfl ⟨?_, ?_, trivial⟩
            ·
             refine an_step (i := 8) rfl S rfl (op_load (t := (.sl (.int .u8))) (x := y_372.1) S rfl ty25 rfl rfl rfl (RepAt.add 0 (RepAt.st (t := gf0) R_428)) ?_)
             clear S; intro a v_430 R_431 S
             refine an_go (k := 15) (i := 10) (by kernel_rfl) rfl S rfl (op_load (t := (.sl (.int .u8))) (x := y_26.1) S rfl ty25 rfl rfl rfl (RepAt.add 0 (RepAt.st (t := gf0) B_33.at_)) ?_)
             clear S; intro a v_432 R_433 S
             refine an_go (k := 14) (i := 11) (by kernel_rfl) rfl S rfl (op_call (vs := [v_430, v_432]) S rfl cb35 rfl rfl rfl (c35 (Kx K w.heap.size [some b_32, some b_8, some v_3]) n w_368 y_372.1 _ R_431 y_26.1 _ R_433 et_380) ?_)
             rintro _ w_437 ⟨v_434, rfl, R_435, hb_436⟩; refine ⟨_, rfl, ?_⟩
             replace R_435 := RepV.back R_435 W
             clear S; intro a S
             replace R0 := R0.step hb_436
             replace R_431 := R_431.step hb_436
             replace R_433 := R_433.step hb_436
             replace R_4 := R_4.step hb_436
             replace B_9 := B_9.step hb_436
             replace B_33 := B_33.step hb_436
             replace W := W.step hb_436
             obtain ⟨rfl, GR_435⟩ := RepV.int R_435
             refine an_pures (k := 11) (l1 := [(62, .bool (decide (t_380 ≥ 0))), (61, .bool (decide (t_380 ≥ 0))), (60, .bool (decide (t_380 ≥ 0))), (59, .int .i64 t_380), (58, v_432), (56, v_430), (55, .pointer (some (p_427.add (coff gf0 0)))), (54, .pointer (some p_427)), (53, .int .i64 x_371), (57, .pointer (some ((⟨b_32, 0, .none⟩ : Addr).add (coff gf0 0)))), (52, .int .i64 c_15), (51, v0), (50, .bool true), (49, .bool true), (48, .int .i64 c_15), (4, .int .i64 c_15), (5, pB b_32), (12, .int .i64 c_15), (11, .int .i64 (lenI x0)), (10, v0), (3, pB b_8), (0, v0)]) tys tys_ok (by kernel_rfl) hQ_ [12, 13, 14] S (by kernel_rfl) (by kernel_rfl) ?_; clear S; intro a S
             rw [show (decide (t_380 ≥ 0)) = false from (Bool.eq_false_iff.2 hc_385)] at S
             refine an_pures (k := 10) (l1 := [(63, .pointer (some ((⟨b_32, 0, .none⟩ : Addr).add (coff gf0 1)))), (62, .bool false), (61, .bool false), (60, .bool false), (59, .int .i64 t_380), (58, v_432), (56, v_430), (55, .pointer (some (p_427.add (coff gf0 0)))), (54, .pointer (some p_427)), (53, .int .i64 x_371), (57, .pointer (some ((⟨b_32, 0, .none⟩ : Addr).add (coff gf0 0)))), (52, .int .i64 c_15), (51, v0), (50, .bool true), (49, .bool true), (48, .int .i64 c_15), (4, .int .i64 c_15), (5, pB b_32), (12, .int .i64 c_15), (11, .int .i64 (lenI x0)), (10, v0), (3, pB b_8), (0, v0)]) tys tys_ok (by kernel_rfl) hQ_ [15] S (by kernel_rfl) (by kernel_rfl) ?_; clear S; intro a S
             refine an_go (k := 9) (i := 16) (by kernel_rfl) rfl S rfl (op_load (t := (.int .u8)) (x := y_26.2.1) S rfl ty29 rfl rfl rfl (RepAt.add 1 (RepAt.st (t := gf0) B_33.at_)) ?_)
             clear S; intro a v_438 R_439 S
             obtain ⟨rfl, GR_439⟩ := RepV.int R_439
             refine an_pures (k := 7) (l1 := [(66, .bool (y_26.2.1 == 2)), (65, .bool (y_26.2.1 == 2)), (64, .int .u8 y_26.2.1), (63, .pointer (some ((⟨b_32, 0, .none⟩ : Addr).add (coff gf0 1)))), (62, .bool false), (61, .bool false), (60, .bool false), (59, .int .i64 t_380), (58, v_432), (56, v_430), (55, .pointer (some (p_427.add (coff gf0 0)))), (54, .pointer (some p_427)), (53, .int .i64 x_371), (57, .pointer (some ((⟨b_32, 0, .none⟩ : Addr).add (coff gf0 0)))), (52, .int .i64 c_15), (51, v0), (50, .bool true), (49, .bool true), (48, .int .i64 c_15), (4, .int .i64 c_15), (5, pB b_32), (12, .int .i64 c_15), (11, .int .i64 (lenI x0)), (10, v0), (3, pB b_8), (0, v0)]) tys tys_ok (by kernel_rfl) hQ_ [17, 18] S (by kernel_rfl) (by kernel_rfl) ?_; clear S; intro a S
             rw [show (y_26.2.1 == 2) = true from hc_418] at S
             refine an_pures (k := 6) (l1 := [(68, .pointer (some ((⟨b_32, 0, .none⟩ : Addr).add (coff gf0 2)))), (66, .bool true), (65, .bool true), (64, .int .u8 y_26.2.1), (63, .pointer (some ((⟨b_32, 0, .none⟩ : Addr).add (coff gf0 1)))), (62, .bool false), (61, .bool false), (60, .bool false), (59, .int .i64 t_380), (58, v_432), (56, v_430), (55, .pointer (some (p_427.add (coff gf0 0)))), (54, .pointer (some p_427)), (53, .int .i64 x_371), (57, .pointer (some ((⟨b_32, 0, .none⟩ : Addr).add (coff gf0 0)))), (52, .int .i64 c_15), (51, v0), (50, .bool true), (49, .bool true), (48, .int .i64 c_15), (4, .int .i64 c_15), (5, pB b_32), (12, .int .i64 c_15), (11, .int .i64 (lenI x0)), (10, v0), (3, pB b_8), (0, v0)]) tys tys_ok (by kernel_rfl) hQ_ [20] S (by kernel_rfl) (by kernel_rfl) ?_; clear S; intro a S
             refine an_fork (k := 5) (is := [19, 21]) (by kernel_rfl) rfl ⟨?_, ?_, trivial⟩
             ·
              refine an_step (i := 19) rfl S rfl (op_load_set S st72 rfl rfl rfl rfl B_9 ?_)
              clear S; intro a S
              refine an_go (k := 4) (i := 21) (by kernel_rfl) rfl S rfl (op_load (t := (.int .u8)) (x := y_26.2.2) S rfl ty5 rfl rfl rfl (RepAt.add 2 (RepAt.st (t := gf0) B_33.at_)) ?_)
              clear S; intro a v_440 R_441 S
              obtain ⟨rfl, GR_441⟩ := RepV.int R_441
              replace R0 : RepV (.sl gt0) w_437 (Kx K w.heap.size [some v_3, some b_32, some b_8]) v0 x0 := R0.mv 2 rfl
              replace R_431 : RepV (.sl (.int .u8)) w_437 (Kx K w.heap.size [some v_3, some b_32, some b_8]) v_430 y_372.1 := R_431.mv 2 rfl
              replace R_433 : RepV (.sl (.int .u8)) w_437 (Kx K w.heap.size [some v_3, some b_32, some b_8]) v_432 y_26.1 := R_433.mv 2 rfl
              replace B_33 : Bx gt0 33 w_437 (Kx K w.heap.size [some v_3, some b_32, some b_8]) b_32 y_26 := B_33.mv 2 rfl
              replace W : Wd w w_437 [some v_3, some b_32, some b_8] := W.mv 2 rfl
              refine an_go (k := 3) (i := 22) (by kernel_rfl) rfl S rfl (op_call (vs := [.agg #[.map (some v_3)], .int .u8 y_26.2.2]) S rfl cb36 rfl rfl rfl (c36 K n w w_437 [some b_32, some b_8] _ c_17 R_4 y_26.2.2 GR_441 W et_421) ?_)
              rintro _ w_442 ⟨v_444, rfl, R_445, O_446, Y_443⟩; refine ⟨_, rfl, ?_⟩
              clear S; intro a S
              replace R0 : RepV (.sl gt0) w_442 (Kx K w.heap.size [some v_3, some b_32, some b_8]) v0 x0 := RepV.yfr (P := [some v_3]) [some b_32, some b_8] R0 Y_443
              replace R_431 : RepV (.sl (.int .u8)) w_442 (Kx K w.heap.size [some v_3, some b_32, some b_8]) v_430 y_372.1 := RepV.yfr (P := [some v_3]) [some b_32, some b_8] R_431 Y_443
              replace R_433 : RepV (.sl (.int .u8)) w_442 (Kx K w.heap.size [some v_3, some b_32, some b_8]) v_432 y_26.1 := RepV.yfr (P := [some v_3]) [some b_32, some b_8] R_433 Y_443
              replace B_9 : Ox (.cells #[.map (some v_3)] 72 (0, 0)) w_442 b_8 := Ox.yfr (P := [some v_3]) [some b_32, some b_8] B_9 Y_443 W (List.mem_of_getElem? (i := 1) rfl)
              replace B_33 : Bx gt0 33 w_442 (Kx K w.heap.size [some v_3, some b_32, some b_8]) b_32 y_26 := Bx.yfr (P := [some v_3]) [some b_32, some b_8] B_33 Y_443 W (List.mem_of_getElem? (i := 0) rfl)
              replace W : Wd w w_442 [some v_3, some b_32, some b_8] := Wd.yfr (P := [some v_3]) [some b_32, some b_8] W Y_443
              replace O_446 : Mp .u8 w_442 v_3 t_421.2 := O_446
              replace R_445 : RepV .bool w_442 (Kx K w.heap.size [some v_3, some b_32, some b_8]) v_444 t_421.1 := R_445
              obtain rfl := RepV.bool R_445
              refine an_pures (k := 0) (l1 := [(73, .bool (!t_421.1)), (72, .bool (!t_421.1)), (71, .bool (!t_421.1)), (70, .bool t_421.1), (69, .int .u8 y_26.2.2), (67, .agg #[.map (some v_3)]), (68, .pointer (some ((⟨b_32, 0, .none⟩ : Addr).add (coff gf0 2)))), (66, .bool true), (65, .bool true), (64, .int .u8 y_26.2.1), (63, .pointer (some ((⟨b_32, 0, .none⟩ : Addr).add (coff gf0 1)))), (62, .bool false), (61, .bool false), (60, .bool false), (59, .int .i64 t_380), (58, v_432), (56, v_430), (55, .pointer (some (p_427.add (coff gf0 0)))), (54, .pointer (some p_427)), (53, .int .i64 x_371), (57, .pointer (some ((⟨b_32, 0, .none⟩ : Addr).add (coff gf0 0)))), (52, .int .i64 c_15), (51, v0), (50, .bool true), (49, .bool true), (48, .int .i64 c_15), (4, .int .i64 c_15), (5, pB b_32), (12, .int .i64 c_15), (11, .int .i64 (lenI x0)), (10, v0), (3, pB b_8), (0, v0)]) tys tys_ok (by kernel_rfl) hQ_ [23, 24, 25] S (by kernel_rfl) (by kernel_rfl) ?_; clear S; intro a S
              refine an_end (by kernel_rfl) ?_
              refine then_n ?_
              replace R0 : RepV (.sl gt0) w_442 (Kx K w.heap.size [some b_8, some v_3, some b_32]) v0 x0 := R0.mv 2 rfl
              replace R_431 : RepV (.sl (.int .u8)) w_442 (Kx K w.heap.size [some b_8, some v_3, some b_32]) v_430 y_372.1 := R_431.mv 2 rfl
              replace R_433 : RepV (.sl (.int .u8)) w_442 (Kx K w.heap.size [some b_8, some v_3, some b_32]) v_432 y_26.1 := R_433.mv 2 rfl
              replace B_33 : Bx gt0 33 w_442 (Kx K w.heap.size [some b_8, some v_3, some b_32]) b_32 y_26 := B_33.mv 2 rfl
              replace W : Wd w w_442 [some b_8, some v_3, some b_32] := W.mv 2 rfl
              replace R0 : RepV (.sl gt0) w_442 (Kx K w.heap.size [some b_32, some b_8, some v_3]) v0 x0 := R0.mv 2 rfl
              replace R_431 : RepV (.sl (.int .u8)) w_442 (Kx K w.heap.size [some b_32, some b_8, some v_3]) v_430 y_372.1 := R_431.mv 2 rfl
              replace R_433 : RepV (.sl (.int .u8)) w_442 (Kx K w.heap.size [some b_32, some b_8, some v_3]) v_432 y_26.1 := R_433.mv 2 rfl
              replace B_33 : Bx gt0 33 w_442 (Kx K w.heap.size [some b_32, some b_8, some v_3]) b_32 y_26 := B_33.mv 2 rfl
              replace W : Wd w w_442 [some b_32, some b_8, some v_3] := W.mv 2 rfl
              exact ⟨S.sub (by exact ⟨rfl, rfl, rfl, rfl, rfl, rfl, trivial⟩), W, R0, O_446, B_9, B_33⟩
             ·
              refine an_step (i := 21) rfl S rfl (op_load (t := (.int .u8)) (x := y_26.2.2) S rfl ty5 rfl rfl rfl (RepAt.add 2 (RepAt.st (t := gf0) B_33.at_)) ?_)
              clear S; intro a v_447 R_448 S
              obtain ⟨rfl, GR_448⟩ := RepV.int R_448
              refine an_go (k := 4) (i := 19) (by kernel_rfl) rfl S rfl (op_load_set S st72 rfl rfl rfl rfl B_9 ?_)
              clear S; intro a S
              replace R0 : RepV (.sl gt0) w_437 (Kx K w.heap.size [some v_3, some b_32, some b_8]) v0 x0 := R0.mv 2 rfl
              replace R_431 : RepV (.sl (.int .u8)) w_437 (Kx K w.heap.size [some v_3, some b_32, some b_8]) v_430 y_372.1 := R_431.mv 2 rfl
              replace R_433 : RepV (.sl (.int .u8)) w_437 (Kx K w.heap.size [some v_3, some b_32, some b_8]) v_432 y_26.1 := R_433.mv 2 rfl
              replace B_33 : Bx gt0 33 w_437 (Kx K w.heap.size [some v_3, some b_32, some b_8]) b_32 y_26 := B_33.mv 2 rfl
              replace W : Wd w w_437 [some v_3, some b_32, some b_8] := W.mv 2 rfl
              refine an_go (k := 3) (i := 22) (by kernel_rfl) rfl S rfl (op_call (vs := [.agg #[.map (some v_3)], .int .u8 y_26.2.2]) S rfl cb36 rfl rfl rfl (c36 K n w w_437 [some b_32, some b_8] _ c_17 R_4 y_26.2.2 GR_448 W et_421) ?_)
              rintro _ w_449 ⟨v_451, rfl, R_452, O_453, Y_450⟩; refine ⟨_, rfl, ?_⟩
              clear S; intro a S
              replace R0 : RepV (.sl gt0) w_449 (Kx K w.heap.size [some v_3, some b_32, some b_8]) v0 x0 := RepV.yfr (P := [some v_3]) [some b_32, some b_8] R0 Y_450
              replace R_431 : RepV (.sl (.int .u8)) w_449 (Kx K w.heap.size [some v_3, some b_32, some b_8]) v_430 y_372.1 := RepV.yfr (P := [some v_3]) [some b_32, some b_8] R_431 Y_450
              replace R_433 : RepV (.sl (.int .u8)) w_449 (Kx K w.heap.size [some v_3, some b_32, some b_8]) v_432 y_26.1 := RepV.yfr (P := [some v_3]) [some b_32, some b_8] R_433 Y_450
              replace B_9 : Ox (.cells #[.map (some v_3)] 72 (0, 0)) w_449 b_8 := Ox.yfr (P := [some v_3]) [some b_32, some b_8] B_9 Y_450 W (List.mem_of_getElem? (i := 1) rfl)
              replace B_33 : Bx gt0 33 w_449 (Kx K w.heap.size [some v_3, some b_32, some b_8]) b_32 y_26 := Bx.yfr (P := [some v_3]) [some b_32, some b_8] B_33 Y_450 W (List.mem_of_getElem? (i := 0) rfl)
              replace W : Wd w w_449 [some v_3, some b_32, some b_8] := Wd.yfr (P := [some v_3]) [some b_32, some b_8] W Y_450
              replace O_453 : Mp .u8 w_449 v_3 t_421.2 := O_453
              replace R_452 : RepV .bool w_449 (Kx K w.heap.size [some v_3, some b_32, some b_8]) v_451 t_421.1 := R_452
              obtain rfl := RepV.bool R_452
              refine an_pures (k := 0) (l1 := [(73, .bool (!t_421.1)), (72, .bool (!t_421.1)), (71, .bool (!t_421.1)), (70, .bool t_421.1), (67, .agg #[.map (some v_3)]), (69, .int .u8 y_26.2.2), (68, .pointer (some ((⟨b_32, 0, .none⟩ : Addr).add (coff gf0 2)))), (66, .bool true), (65, .bool true), (64, .int .u8 y_26.2.1), (63, .pointer (some ((⟨b_32, 0, .none⟩ : Addr).add (coff gf0 1)))), (62, .bool false), (61, .bool false), (60, .bool false), (59, .int .i64 t_380), (58, v_432), (56, v_430), (55, .pointer (some (p_427.add (coff gf0 0)))), (54, .pointer (some p_427)), (53, .int .i64 x_371), (57, .pointer (some ((⟨b_32, 0, .none⟩ : Addr).add (coff gf0 0)))), (52, .int .i64 c_15), (51, v0), (50, .bool true), (49, .bool true), (48, .int .i64 c_15), (4, .int .i64 c_15), (5, pB b_32), (12, .int .i64 c_15), (11, .int .i64 (lenI x0)), (10, v0), (3, pB b_8), (0, v0)]) tys tys_ok (by kernel_rfl) hQ_ [23, 24, 25] S (by kernel_rfl) (by kernel_rfl) ?_; clear S; intro a S
              refine an_end (by kernel_rfl) ?_
              refine then_n ?_
              replace R0 : RepV (.sl gt0) w_449 (Kx K w.heap.size [some b_8, some v_3, some b_32]) v0 x0 := R0.mv 2 rfl
              replace R_431 : RepV (.sl (.int .u8)) w_449 (Kx K w.heap.size [some b_8, some v_3, some b_32]) v_430 y_372.1 := R_431.mv 2 rfl
              replace R_433 : RepV (.sl (.int .u8)) w_449 (Kx K w.heap.size [some b_8, some v_3, some b_32]) v_432 y_26.1 := R_433.mv 2 rfl
              replace B_33 : Bx gt0 33 w_449 (Kx K w.heap.size [some b_8, some v_3, some b_32]) b_32 y_26 := B_33.mv 2 rfl
              replace W : Wd w w_449 [some b_8, some v_3, some b_32] := W.mv 2 rfl
              replace R0 : RepV (.sl gt0) w_449 (Kx K w.heap.size [some b_32, some b_8, some v_3]) v0 x0 := R0.mv 2 rfl
              replace R_431 : RepV (.sl (.int .u8)) w_449 (Kx K w.heap.size [some b_32, some b_8, some v_3]) v_430 y_372.1 := R_431.mv 2 rfl
              replace R_433 : RepV (.sl (.int .u8)) w_449 (Kx K w.heap.size [some b_32, some b_8, some v_3]) v_432 y_26.1 := R_433.mv 2 rfl
              replace B_33 : Bx gt0 33 w_449 (Kx K w.heap.size [some b_32, some b_8, some v_3]) b_32 y_26 := B_33.mv 2 rfl
              replace W : Wd w w_449 [some b_32, some b_8, some v_3] := W.mv 2 rfl
              exact ⟨S.sub (by exact ⟨rfl, rfl, rfl, rfl, rfl, rfl, trivial⟩), W, R0, O_453, B_9, B_33⟩
            ·
             refine an_step (i := 10) rfl S rfl (op_load (t := (.sl (.int .u8))) (x := y_26.1) S rfl ty25 rfl rfl rfl (RepAt.add 0 (RepAt.st (t := gf0) B_33.at_)) ?_)
             clear S; intro a v_454 R_455 S
             refine an_go (k := 15) (i := 8) (by kernel_rfl) rfl S rfl (op_load (t := (.sl (.int .u8))) (x := y_372.1) S rfl ty25 rfl rfl rfl (RepAt.add 0 (RepAt.st (t := gf0) R_428)) ?_)
             clear S; intro a v_456 R_457 S
             refine an_go (k := 14) (i := 11) (by kernel_rfl) rfl S rfl (op_call (vs := [v_456, v_454]) S rfl cb35 rfl rfl rfl (c35 (Kx K w.heap.size [some b_32, some b_8, some v_3]) n w_368 y_372.1 _ R_457 y_26.1 _ R_455 et_380) ?_)
             rintro _ w_461 ⟨v_458, rfl, R_459, hb_460⟩; refine ⟨_, rfl, ?_⟩
             replace R_459 := RepV.back R_459 W
             clear S; intro a S
             replace R0 := R0.step hb_460
             replace R_455 := R_455.step hb_460
             replace R_457 := R_457.step hb_460
             replace R_4 := R_4.step hb_460
             replace B_9 := B_9.step hb_460
             replace B_33 := B_33.step hb_460
             replace W := W.step hb_460
             obtain ⟨rfl, GR_459⟩ := RepV.int R_459
             refine an_pures (k := 11) (l1 := [(62, .bool (decide (t_380 ≥ 0))), (61, .bool (decide (t_380 ≥ 0))), (60, .bool (decide (t_380 ≥ 0))), (59, .int .i64 t_380), (56, v_456), (58, v_454), (55, .pointer (some (p_427.add (coff gf0 0)))), (54, .pointer (some p_427)), (53, .int .i64 x_371), (57, .pointer (some ((⟨b_32, 0, .none⟩ : Addr).add (coff gf0 0)))), (52, .int .i64 c_15), (51, v0), (50, .bool true), (49, .bool true), (48, .int .i64 c_15), (4, .int .i64 c_15), (5, pB b_32), (12, .int .i64 c_15), (11, .int .i64 (lenI x0)), (10, v0), (3, pB b_8), (0, v0)]) tys tys_ok (by kernel_rfl) hQ_ [12, 13, 14] S (by kernel_rfl) (by kernel_rfl) ?_; clear S; intro a S
             rw [show (decide (t_380 ≥ 0)) = false from (Bool.eq_false_iff.2 hc_385)] at S
             refine an_pures (k := 10) (l1 := [(63, .pointer (some ((⟨b_32, 0, .none⟩ : Addr).add (coff gf0 1)))), (62, .bool false), (61, .bool false), (60, .bool false), (59, .int .i64 t_380), (56, v_456), (58, v_454), (55, .pointer (some (p_427.add (coff gf0 0)))), (54, .pointer (some p_427)), (53, .int .i64 x_371), (57, .pointer (some ((⟨b_32, 0, .none⟩ : Addr).add (coff gf0 0)))), (52, .int .i64 c_15), (51, v0), (50, .bool true), (49, .bool true), (48, .int .i64 c_15), (4, .int .i64 c_15), (5, pB b_32), (12, .int .i64 c_15), (11, .int .i64 (lenI x0)), (10, v0), (3, pB b_8), (0, v0)]) tys tys_ok (by kernel_rfl) hQ_ [15] S (by kernel_rfl) (by kernel_rfl) ?_; clear S; intro a S
             refine an_go (k := 9) (i := 16) (by kernel_rfl) rfl S rfl (op_load (t := (.int .u8)) (x := y_26.2.1) S rfl ty29 rfl rfl rfl (RepAt.add 1 (RepAt.st (t := gf0) B_33.at_)) ?_)
             clear S; intro a v_462 R_463 S
             obtain ⟨rfl, GR_463⟩ := RepV.int R_463
             refine an_pures (k := 7) (l1 := [(66, .bool (y_26.2.1 == 2)), (65, .bool (y_26.2.1 == 2)), (64, .int .u8 y_26.2.1), (63, .pointer (some ((⟨b_32, 0, .none⟩ : Addr).add (coff gf0 1)))), (62, .bool false), (61, .bool false), (60, .bool false), (59, .int .i64 t_380), (56, v_456), (58, v_454), (55, .pointer (some (p_427.add (coff gf0 0)))), (54, .pointer (some p_427)), (53, .int .i64 x_371), (57, .pointer (some ((⟨b_32, 0, .none⟩ : Addr).add (coff gf0 0)))), (52, .int .i64 c_15), (51, v0), (50, .bool true), (49, .bool true), (48, .int .i64 c_15), (4, .int .i64 c_15), (5, pB b_32), (12, .int .i64 c_15), (11, .int .i64 (lenI x0)), (10, v0), (3, pB b_8), (0, v0)]) tys tys_ok (by kernel_rfl) hQ_ [17, 18] S (by kernel_rfl) (by kernel_rfl) ?_; clear S; intro a S
             rw [show (y_26.2.1 == 2) = true from hc_418] at S
             refine an_pures (k := 6) (l1 := [(68, .pointer (some ((⟨b_32, 0, .none⟩ : Addr).add (coff gf0 2)))), (66, .bool true), (65, .bool true), (64, .int .u8 y_26.2.1), (63, .pointer (some ((⟨b_32, 0, .none⟩ : Addr).add (coff gf0 1)))), (62, .bool false), (61, .bool false), (60, .bool false), (59, .int .i64 t_380), (56, v_456), (58, v_454), (55, .pointer (some (p_427.add (coff gf0 0)))), (54, .pointer (some p_427)), (53, .int .i64 x_371), (57, .pointer (some ((⟨b_32, 0, .none⟩ : Addr).add (coff gf0 0)))), (52, .int .i64 c_15), (51, v0), (50, .bool true), (49, .bool true), (48, .int .i64 c_15), (4, .int .i64 c_15), (5, pB b_32), (12, .int .i64 c_15), (11, .int .i64 (lenI x0)), (10, v0), (3, pB b_8), (0, v0)]) tys tys_ok (by kernel_rfl) hQ_ [20] S (by kernel_rfl) (by kernel_rfl) ?_; clear S; intro a S
             refine an_fork (k := 5) (is := [19, 21]) (by kernel_rfl) rfl ⟨?_, ?_, trivial⟩
             ·
              refine an_step (i := 19) rfl S rfl (op_load_set S st72 rfl rfl rfl rfl B_9 ?_)
              clear S; intro a S
              refine an_go (k := 4) (i := 21) (by kernel_rfl) rfl S rfl (op_load (t := (.int .u8)) (x := y_26.2.2) S rfl ty5 rfl rfl rfl (RepAt.add 2 (RepAt.st (t := gf0) B_33.at_)) ?_)
              clear S; intro a v_464 R_465 S
              obtain ⟨rfl, GR_465⟩ := RepV.int R_465
              replace R0 : RepV (.sl gt0) w_461 (Kx K w.heap.size [some v_3, some b_32, some b_8]) v0 x0 := R0.mv 2 rfl
              replace R_455 : RepV (.sl (.int .u8)) w_461 (Kx K w.heap.size [some v_3, some b_32, some b_8]) v_454 y_26.1 := R_455.mv 2 rfl
              replace R_457 : RepV (.sl (.int .u8)) w_461 (Kx K w.heap.size [some v_3, some b_32, some b_8]) v_456 y_372.1 := R_457.mv 2 rfl
              replace B_33 : Bx gt0 33 w_461 (Kx K w.heap.size [some v_3, some b_32, some b_8]) b_32 y_26 := B_33.mv 2 rfl
              replace W : Wd w w_461 [some v_3, some b_32, some b_8] := W.mv 2 rfl
              refine an_go (k := 3) (i := 22) (by kernel_rfl) rfl S rfl (op_call (vs := [.agg #[.map (some v_3)], .int .u8 y_26.2.2]) S rfl cb36 rfl rfl rfl (c36 K n w w_461 [some b_32, some b_8] _ c_17 R_4 y_26.2.2 GR_465 W et_421) ?_)
              rintro _ w_466 ⟨v_468, rfl, R_469, O_470, Y_467⟩; refine ⟨_, rfl, ?_⟩
              clear S; intro a S
              replace R0 : RepV (.sl gt0) w_466 (Kx K w.heap.size [some v_3, some b_32, some b_8]) v0 x0 := RepV.yfr (P := [some v_3]) [some b_32, some b_8] R0 Y_467
              replace R_455 : RepV (.sl (.int .u8)) w_466 (Kx K w.heap.size [some v_3, some b_32, some b_8]) v_454 y_26.1 := RepV.yfr (P := [some v_3]) [some b_32, some b_8] R_455 Y_467
              replace R_457 : RepV (.sl (.int .u8)) w_466 (Kx K w.heap.size [some v_3, some b_32, some b_8]) v_456 y_372.1 := RepV.yfr (P := [some v_3]) [some b_32, some b_8] R_457 Y_467
              replace B_9 : Ox (.cells #[.map (some v_3)] 72 (0, 0)) w_466 b_8 := Ox.yfr (P := [some v_3]) [some b_32, some b_8] B_9 Y_467 W (List.mem_of_getElem? (i := 1) rfl)
              replace B_33 : Bx gt0 33 w_466 (Kx K w.heap.size [some v_3, some b_32, some b_8]) b_32 y_26 := Bx.yfr (P := [some v_3]) [some b_32, some b_8] B_33 Y_467 W (List.mem_of_getElem? (i := 0) rfl)
              replace W : Wd w w_466 [some v_3, some b_32, some b_8] := Wd.yfr (P := [some v_3]) [some b_32, some b_8] W Y_467
              replace O_470 : Mp .u8 w_466 v_3 t_421.2 := O_470
              replace R_469 : RepV .bool w_466 (Kx K w.heap.size [some v_3, some b_32, some b_8]) v_468 t_421.1 := R_469
              obtain rfl := RepV.bool R_469
              refine an_pures (k := 0) (l1 := [(73, .bool (!t_421.1)), (72, .bool (!t_421.1)), (71, .bool (!t_421.1)), (70, .bool t_421.1), (69, .int .u8 y_26.2.2), (67, .agg #[.map (some v_3)]), (68, .pointer (some ((⟨b_32, 0, .none⟩ : Addr).add (coff gf0 2)))), (66, .bool true), (65, .bool true), (64, .int .u8 y_26.2.1), (63, .pointer (some ((⟨b_32, 0, .none⟩ : Addr).add (coff gf0 1)))), (62, .bool false), (61, .bool false), (60, .bool false), (59, .int .i64 t_380), (56, v_456), (58, v_454), (55, .pointer (some (p_427.add (coff gf0 0)))), (54, .pointer (some p_427)), (53, .int .i64 x_371), (57, .pointer (some ((⟨b_32, 0, .none⟩ : Addr).add (coff gf0 0)))), (52, .int .i64 c_15), (51, v0), (50, .bool true), (49, .bool true), (48, .int .i64 c_15), (4, .int .i64 c_15), (5, pB b_32), (12, .int .i64 c_15), (11, .int .i64 (lenI x0)), (10, v0), (3, pB b_8), (0, v0)]) tys tys_ok (by kernel_rfl) hQ_ [23, 24, 25] S (by kernel_rfl) (by kernel_rfl) ?_; clear S; intro a S
              refine an_end (by kernel_rfl) ?_
              refine then_n ?_
              replace R0 : RepV (.sl gt0) w_466 (Kx K w.heap.size [some b_8, some v_3, some b_32]) v0 x0 := R0.mv 2 rfl
              replace R_455 : RepV (.sl (.int .u8)) w_466 (Kx K w.heap.size [some b_8, some v_3, some b_32]) v_454 y_26.1 := R_455.mv 2 rfl
              replace R_457 : RepV (.sl (.int .u8)) w_466 (Kx K w.heap.size [some b_8, some v_3, some b_32]) v_456 y_372.1 := R_457.mv 2 rfl
              replace B_33 : Bx gt0 33 w_466 (Kx K w.heap.size [some b_8, some v_3, some b_32]) b_32 y_26 := B_33.mv 2 rfl
              replace W : Wd w w_466 [some b_8, some v_3, some b_32] := W.mv 2 rfl
              replace R0 : RepV (.sl gt0) w_466 (Kx K w.heap.size [some b_32, some b_8, some v_3]) v0 x0 := R0.mv 2 rfl
              replace R_455 : RepV (.sl (.int .u8)) w_466 (Kx K w.heap.size [some b_32, some b_8, some v_3]) v_454 y_26.1 := R_455.mv 2 rfl
              replace R_457 : RepV (.sl (.int .u8)) w_466 (Kx K w.heap.size [some b_32, some b_8, some v_3]) v_456 y_372.1 := R_457.mv 2 rfl
              replace B_33 : Bx gt0 33 w_466 (Kx K w.heap.size [some b_32, some b_8, some v_3]) b_32 y_26 := B_33.mv 2 rfl
              replace W : Wd w w_466 [some b_32, some b_8, some v_3] := W.mv 2 rfl
              exact ⟨S.sub (by exact ⟨rfl, rfl, rfl, rfl, rfl, rfl, trivial⟩), W, R0, O_470, B_9, B_33⟩
             ·
              refine an_step (i := 21) rfl S rfl (op_load (t := (.int .u8)) (x := y_26.2.2) S rfl ty5 rfl rfl rfl (RepAt.add 2 (RepAt.st (t := gf0) B_33.at_)) ?_)
              clear S; intro a v_471 R_472 S
              obtain ⟨rfl, GR_472⟩ := RepV.int R_472
              refine an_go (k := 4) (i := 19) (by kernel_rfl) rfl S rfl (op_load_set S st72 rfl rfl rfl rfl B_9 ?_)
              clear S; intro a S
              replace R0 : RepV (.sl gt0) w_461 (Kx K w.heap.size [some v_3, some b_32, some b_8]) v0 x0 := R0.mv 2 rfl
              replace R_455 : RepV (.sl (.int .u8)) w_461 (Kx K w.heap.size [some v_3, some b_32, some b_8]) v_454 y_26.1 := R_455.mv 2 rfl
              replace R_457 : RepV (.sl (.int .u8)) w_461 (Kx K w.heap.size [some v_3, some b_32, some b_8]) v_456 y_372.1 := R_457.mv 2 rfl
              replace B_33 : Bx gt0 33 w_461 (Kx K w.heap.size [some v_3, some b_32, some b_8]) b_32 y_26 := B_33.mv 2 rfl
              replace W : Wd w w_461 [some v_3, some b_32, some b_8] := W.mv 2 rfl
              refine an_go (k := 3) (i := 22) (by kernel_rfl) rfl S rfl (op_call (vs := [.agg #[.map (some v_3)], .int .u8 y_26.2.2]) S rfl cb36 rfl rfl rfl (c36 K n w w_461 [some b_32, some b_8] _ c_17 R_4 y_26.2.2 GR_472 W et_421) ?_)
              rintro _ w_473 ⟨v_475, rfl, R_476, O_477, Y_474⟩; refine ⟨_, rfl, ?_⟩
              clear S; intro a S
              replace R0 : RepV (.sl gt0) w_473 (Kx K w.heap.size [some v_3, some b_32, some b_8]) v0 x0 := RepV.yfr (P := [some v_3]) [some b_32, some b_8] R0 Y_474
              replace R_455 : RepV (.sl (.int .u8)) w_473 (Kx K w.heap.size [some v_3, some b_32, some b_8]) v_454 y_26.1 := RepV.yfr (P := [some v_3]) [some b_32, some b_8] R_455 Y_474
              replace R_457 : RepV (.sl (.int .u8)) w_473 (Kx K w.heap.size [some v_3, some b_32, some b_8]) v_456 y_372.1 := RepV.yfr (P := [some v_3]) [some b_32, some b_8] R_457 Y_474
              replace B_9 : Ox (.cells #[.map (some v_3)] 72 (0, 0)) w_473 b_8 := Ox.yfr (P := [some v_3]) [some b_32, some b_8] B_9 Y_474 W (List.mem_of_getElem? (i := 1) rfl)
              replace B_33 : Bx gt0 33 w_473 (Kx K w.heap.size [some v_3, some b_32, some b_8]) b_32 y_26 := Bx.yfr (P := [some v_3]) [some b_32, some b_8] B_33 Y_474 W (List.mem_of_getElem? (i := 0) rfl)
              replace W : Wd w w_473 [some v_3, some b_32, some b_8] := Wd.yfr (P := [some v_3]) [some b_32, some b_8] W Y_474
              replace O_477 : Mp .u8 w_473 v_3 t_421.2 := O_477
              replace R_476 : RepV .bool w_473 (Kx K w.heap.size [some v_3, some b_32, some b_8]) v_475 t_421.1 := R_476
              obtain rfl := RepV.bool R_476
              refine an_pures (k := 0) (l1 := [(73, .bool (!t_421.1)), (72, .bool (!t_421.1)), (71, .bool (!t_421.1)), (70, .bool t_421.1), (67, .agg #[.map (some v_3)]), (69, .int .u8 y_26.2.2), (68, .pointer (some ((⟨b_32, 0, .none⟩ : Addr).add (coff gf0 2)))), (66, .bool true), (65, .bool true), (64, .int .u8 y_26.2.1), (63, .pointer (some ((⟨b_32, 0, .none⟩ : Addr).add (coff gf0 1)))), (62, .bool false), (61, .bool false), (60, .bool false), (59, .int .i64 t_380), (56, v_456), (58, v_454), (55, .pointer (some (p_427.add (coff gf0 0)))), (54, .pointer (some p_427)), (53, .int .i64 x_371), (57, .pointer (some ((⟨b_32, 0, .none⟩ : Addr).add (coff gf0 0)))), (52, .int .i64 c_15), (51, v0), (50, .bool true), (49, .bool true), (48, .int .i64 c_15), (4, .int .i64 c_15), (5, pB b_32), (12, .int .i64 c_15), (11, .int .i64 (lenI x0)), (10, v0), (3, pB b_8), (0, v0)]) tys tys_ok (by kernel_rfl) hQ_ [23, 24, 25] S (by kernel_rfl) (by kernel_rfl) ?_; clear S; intro a S
              refine an_end (by kernel_rfl) ?_
              refine then_n ?_
              replace R0 : RepV (.sl gt0) w_473 (Kx K w.heap.size [some b_8, some v_3, some b_32]) v0 x0 := R0.mv 2 rfl
              replace R_455 : RepV (.sl (.int .u8)) w_473 (Kx K w.heap.size [some b_8, some v_3, some b_32]) v_454 y_26.1 := R_455.mv 2 rfl
              replace R_457 : RepV (.sl (.int .u8)) w_473 (Kx K w.heap.size [some b_8, some v_3, some b_32]) v_456 y_372.1 := R_457.mv 2 rfl
              replace B_33 : Bx gt0 33 w_473 (Kx K w.heap.size [some b_8, some v_3, some b_32]) b_32 y_26 := B_33.mv 2 rfl
              replace W : Wd w w_473 [some b_8, some v_3, some b_32] := W.mv 2 rfl
              replace R0 : RepV (.sl gt0) w_473 (Kx K w.heap.size [some b_32, some b_8, some v_3]) v0 x0 := R0.mv 2 rfl
              replace R_455 : RepV (.sl (.int .u8)) w_473 (Kx K w.heap.size [some b_32, some b_8, some v_3]) v_454 y_26.1 := R_455.mv 2 rfl
              replace R_457 : RepV (.sl (.int .u8)) w_473 (Kx K w.heap.size [some b_32, some b_8, some v_3]) v_456 y_372.1 := R_457.mv 2 rfl
              replace B_33 : Bx gt0 33 w_473 (Kx K w.heap.size [some b_32, some b_8, some v_3]) b_32 y_26 := B_33.mv 2 rfl
              replace W : Wd w w_473 [some b_32, some b_8, some v_3] := W.mv 2 rfl
              exact ⟨S.sub (by exact ⟨rfl, rfl, rfl, rfl, rfl, rfl, trivial⟩), W, R0, O_477, B_9, B_33⟩
           ·
            refine an_step (i := 10) rfl S rfl (op_load (t := (.sl (.int .u8))) (x := y_26.1) S rfl ty25 rfl rfl rfl (RepAt.add 0 (RepAt.st (t := gf0) B_33.at_)) ?_)
            clear S; intro a v_478 R_479 S
            refine an_go (k := 18) (i := 5) (by kernel_rfl) rfl S rfl (op_arith S .i64 (c_15 - 1) rfl (.inr (.inl rfl)) rfl rfl rfl rfl ex_371 ?_)
            clear S; intro a S
            refine an_go (k := 17) (i := 6) (by kernel_rfl) rfl S rfl (op_indexAddr S rfl ty23 rfl rfl rfl R0 rfl ey_372 ?_)
            clear S; intro a p_480 R_481 H_482 S
            refine an_pures (k := 16) (l1 := [(55, .pointer (some (p_480.add (coff gf0 0)))), (54, .pointer (some p_480)), (53, .int .i64 x_371), (58, v_478), (57, .pointer (some ((⟨b_32, 0, .none⟩ : Addr).add (coff gf0 0)))), (52, .int .i64 c_15), (51, v0), (50, .bool true), (49, .bool true), (48, .int .i64 c_15), (4, .int .i64 c_15), (5, pB b_32), (12, .int .i64 c_15), (11, .int .i64 (lenI x0)), (10, v0), (3, pB b_8), (0, v0)]) tys tys_ok (by kernel_rfl) hQ_ [7] S (by kernel_rfl) (by kernel_rfl) ?_; clear S; intro a S
            refine an_go (k := 15) (i := 8) (by kernel_rfl) rfl S rfl (op_load (t := (.sl (.int .u8))) (x := y_372.1) S rfl ty25 rfl rfl rfl (RepAt.add 0 (RepAt.st (t := gf0) R_481)) ?_)
            clear S; intro a v_483 R_484 S
            refine an_go (k := 14) (i := 11) (by kernel_rfl) rfl S rfl (op_call (vs := [v_483, v_478]) S rfl cb35 rfl rfl rfl (c35 (Kx K w.heap.size [some b_32, some b_8, some v_3]) n w_368 y_372.1 _ R_484 y_26.1 _ R_479 et_380) ?_)
            rintro _ w_488 ⟨v_485, rfl, R_486, hb_487⟩; refine ⟨_, rfl, ?_⟩
            replace R_486 := RepV.back R_486 W
            clear S; intro a S
            replace R0 := R0.step hb_487
            replace R_479 := R_479.step hb_487
            replace R_484 := R_484.step hb_487
            replace R_4 := R_4.step hb_487
            replace B_9 := B_9.step hb_487
            replace B_33 := B_33.step hb_487
            replace W := W.step hb_487
            obtain ⟨rfl, GR_486⟩ := RepV.int R_486
            refine an_pures (k := 11) (l1 := [(62, .bool (decide (t_380 ≥ 0))), (61, .bool (decide (t_380 ≥ 0))), (60, .bool (decide (t_380 ≥ 0))), (59, .int .i64 t_380), (56, v_483), (55, .pointer (some (p_480.add (coff gf0 0)))), (54, .pointer (some p_480)), (53, .int .i64 x_371), (58, v_478), (57, .pointer (some ((⟨b_32, 0, .none⟩ : Addr).add (coff gf0 0)))), (52, .int .i64 c_15), (51, v0), (50, .bool true), (49, .bool true), (48, .int .i64 c_15), (4, .int .i64 c_15), (5, pB b_32), (12, .int .i64 c_15), (11, .int .i64 (lenI x0)), (10, v0), (3, pB b_8), (0, v0)]) tys tys_ok (by kernel_rfl) hQ_ [12, 13, 14] S (by kernel_rfl) (by kernel_rfl) ?_; clear S; intro a S
            rw [show (decide (t_380 ≥ 0)) = false from (Bool.eq_false_iff.2 hc_385)] at S
            refine an_pures (k := 10) (l1 := [(63, .pointer (some ((⟨b_32, 0, .none⟩ : Addr).add (coff gf0 1)))), (62, .bool false), (61, .bool false), (60, .bool false), (59, .int .i64 t_380), (56, v_483), (55, .pointer (some (p_480.add (coff gf0 0)))), (54, .pointer (some p_480)), (53, .int .i64 x_371), (58, v_478), (57, .pointer (some ((⟨b_32, 0, .none⟩ : Addr).add (coff gf0 0)))), (52, .int .i64 c_15), (51, v0), (50, .bool true), (49, .bool true), (48, .int .i64 c_15), (4, .int .i64 c_15), (5, pB b_32), (12, .int .i64 c_15), (11, .int .i64 (lenI x0)), (10, v0), (3, pB b_8), (0, v0)]) tys tys_ok (by kernel_rfl) hQ_ [15] S (by kernel_rfl) (by kernel_rfl) ?_; clear S; intro a S
            refine an_go (k := 9) (i := 16) (by kernel_rfl) rfl S rfl (op_load (t := (.int .u8)) (x := y_26.2.1) S rfl ty29 rfl rfl rfl (RepAt.add 1 (RepAt.st (t := gf0) B_33.at_)) ?_)
            clear S; intro a v_489 R_490 S
            obtain ⟨rfl, GR_490⟩ := RepV.int R_490
            refine an_pures (k := 7) (l1 := [(66, .bool (y_26.2.1 == 2)), (65, .bool (y_26.2.1 == 2)), (64, .int .u8 y_26.2.1), (63, .pointer (some ((⟨b_32, 0, .none⟩ : Addr).add (coff gf0 1)))), (62, .bool false), (61, .bool false), (60, .bool false), (59, .int .i64 t_380), (56, v_483), (55, .pointer (some (p_480.add (coff gf0 0)))), (54, .pointer (some p_480)), (53, .int .i64 x_371), (58, v_478), (57, .pointer (some ((⟨b_32, 0, .none⟩ : Addr).add (coff gf0 0)))), (52, .int .i64 c_15), (51, v0), (50, .bool true), (49, .bool true), (48, .int .i64 c_15), (4, .int .i64 c_15), (5, pB b_32), (12, .int .i64 c_15), (11, .int .i64 (lenI x0)), (10, v0), (3, pB b_8), (0, v0)]) tys tys_ok (by kernel_rfl) hQ_ [17, 18] S (by kernel_rfl) (by kernel_rfl) ?_; clear S; intro a S
            rw [show (y_26.2.1 == 2) = true from hc_418] at S
            refine an_pures (k := 6) (l1 := [(68, .pointer (some ((⟨b_32, 0, .none⟩ : Addr).add (coff gf0 2)))), (66, .bool true), (65, .bool true), (64, .int .u8 y_26.2.1), (63, .pointer (some ((⟨b_32, 0, .none⟩ : Addr).add (coff gf0 1)))), (62, .bool false), (61, .bool false), (60, .bool false), (59, .int .i64 t_380), (56, v_483), (55, .pointer (some (p_480.add (coff gf0 0)))), (54, .pointer (some p_480)), (53, .int .i64 x_371), (58, v_478), (57, .pointer (some ((⟨b_32, 0, .none⟩ : Addr).add (coff gf0 0)))), (52, .int .i64 c_15), (51, v0), (50, .bool true), (49, .bool true), (48, .int .i64 c_15), (4, .int .i64 c_15), (5, pB b_32), (12, .int .i64 c_15), (11, .int .i64 (lenI x0)), (10, v0), (3, pB b_8), (0, v0)]) tys tys_ok (by kernel_rfl) hQ_ [20] S (by kernel_rfl) (by kernel_rfl) ?_; clear S; intro a S
            refine an_fork (k := 5) (is := [19, 21]) (by kernel_rfl) rfl ⟨?_, ?_, trivial⟩
            ·
             refine an_step (i := 19) rfl S rfl (op_load_set S st72 rfl rfl rfl rfl B_9 ?_)
             clear S; intro a S
             refine an_go (k := 4) (i := 21) (by kernel_rfl) rfl S rfl (op_load (t := (.int .u8)) (x := y_26.2.2) S rfl ty5 rfl rfl rfl (RepAt.add 2 (RepAt.st (t := gf0) B_33.at_)) ?_)
             clear S; intro a v_491 R_492 S
             obtain ⟨rfl, GR_492⟩ := RepV.int R_492
             replace R0 : RepV (.sl gt0) w_488 (Kx K w.heap.size [some v_3, some b_32, some b_8]) v0 x0 := R0.mv 2 rfl
             replace R_479 : RepV (.sl (.int .u8)) w_488 (Kx K w.heap.size [some v_3, some b_32, some b_8]) v_478 y_26.1 := R_479.mv 2 rfl
             replace R_484 : RepV (.sl (.int .u8)) w_488 (Kx K w.heap.size [some v_3, some b_32, some b_8]) v_483 y_372.1 := R_484.mv 2 rfl
             replace B_33 : Bx gt0 33 w_488 (Kx K w.heap.size [some v_3, some b_32, some b_8]) b_32 y_26 := B_33.mv 2 rfl
             replace W : Wd w w_488 [some v_3, some b_32, some b_8] := W.mv 2 rfl
             refine an_go (k := 3) (i := 22) (by kernel_rfl) rfl S rfl (op_call (vs := [.agg #[.map (some v_3)], .int .u8 y_26.2.2]) S rfl cb36 rfl rfl rfl (c36 K n w w_488 [some b_32, some b_8] _ c_17 R_4 y_26.2.2 GR_492 W et_421) ?_)
             rintro _ w_493 ⟨v_495, rfl, R_496, O_497, Y_494⟩; refine ⟨_, rfl, ?_⟩
             clear S; intro a S
             replace R0 : RepV (.sl gt0) w_493 (Kx K w.heap.size [some v_3, some b_32, some b_8]) v0 x0 := RepV.yfr (P := [some v_3]) [some b_32, some b_8] R0 Y_494
             replace R_479 : RepV (.sl (.int .u8)) w_493 (Kx K w.heap.size [some v_3, some b_32, some b_8]) v_478 y_26.1 := RepV.yfr (P := [some v_3]) [some b_32, some b_8] R_479 Y_494
             replace R_484 : RepV (.sl (.int .u8)) w_493 (Kx K w.heap.size [some v_3, some b_32, some b_8]) v_483 y_372.1 := RepV.yfr (P := [some v_3]) [some b_32, some b_8] R_484 Y_494
             replace B_9 : Ox (.cells #[.map (some v_3)] 72 (0, 0)) w_493 b_8 := Ox.yfr (P := [some v_3]) [some b_32, some b_8] B_9 Y_494 W (List.mem_of_getElem? (i := 1) rfl)
             replace B_33 : Bx gt0 33 w_493 (Kx K w.heap.size [some v_3, some b_32, some b_8]) b_32 y_26 := Bx.yfr (P := [some v_3]) [some b_32, some b_8] B_33 Y_494 W (List.mem_of_getElem? (i := 0) rfl)
             replace W : Wd w w_493 [some v_3, some b_32, some b_8] := Wd.yfr (P := [some v_3]) [some b_32, some b_8] W Y_494
             replace O_497 : Mp .u8 w_493 v_3 t_421.2 := O_497
             replace R_496 : RepV .bool w_493 (Kx K w.heap.size [some v_3, some b_32, some b_8]) v_495 t_421.1 := R_496
             obtain rfl := RepV.bool R_496
             refine an_pures (k := 0) (l1 := [(73, .bool (!t_421.1)), (72, .bool (!t_421.1)), (71, .bool (!t_421.1)), (70, .bool t_421.1), (69, .int .u8 y_26.2.2), (67, .agg #[.map (some v_3)]), (68, .pointer (some ((⟨b_32, 0, .none⟩ : Addr).add (coff gf0 2)))), (66, .bool true), (65, .bool true), (64, .int .u8 y_26.2.1), (63, .pointer (some ((⟨b_32, 0, .none⟩ : Addr).add (coff gf0 1)))), (62, .bool false), (61, .bool false), (60, .bool false), (59, .int .i64 t_380), (56, v_483), (55, .pointer (some (p_480.add (coff gf0 0)))), (54, .pointer (some p_480)), (53, .int .i64 x_371), (58, v_478), (57, .pointer (some ((⟨b_32, 0, .none⟩ : Addr).add (coff gf0 0)))), (52, .int .i64 c_15), (51, v0), (50, .bool true), (49, .bool true), (48, .int .i64 c_15), (4, .int .i64 c_15), (5, pB b_32), (12, .int .i64 c_15), (11, .int .i64 (lenI x0)), (10, v0), (3, pB b_8), (0, v0)]) tys tys_ok (by kernel_rfl) hQ_ [23, 24, 25] S (by kernel_rfl) (by kernel_rfl) ?_; clear S; intro a S
             refine an_end (by kernel_rfl) ?_
             refine then_n ?_
             replace R0 : RepV (.sl gt0) w_493 (Kx K w.heap.size [some b_8, some v_3, some b_32]) v0 x0 := R0.mv 2 rfl
             replace R_479 : RepV (.sl (.int .u8)) w_493 (Kx K w.heap.size [some b_8, some v_3, some b_32]) v_478 y_26.1 := R_479.mv 2 rfl
             replace R_484 : RepV (.sl (.int .u8)) w_493 (Kx K w.heap.size [some b_8, some v_3, some b_32]) v_483 y_372.1 := R_484.mv 2 rfl
             replace B_33 : Bx gt0 33 w_493 (Kx K w.heap.size [some b_8, some v_3, some b_32]) b_32 y_26 := B_33.mv 2 rfl
             replace W : Wd w w_493 [some b_8, some v_3, some b_32] := W.mv 2 rfl
             replace R0 : RepV (.sl gt0) w_493 (Kx K w.heap.size [some b_32, some b_8, some v_3]) v0 x0 := R0.mv 2 rfl
             replace R_479 : RepV (.sl (.int .u8)) w_493 (Kx K w.heap.size [some b_32, some b_8, some v_3]) v_478 y_26.1 := R_479.mv 2 rfl
             replace R_484 : RepV (.sl (.int .u8)) w_493 (Kx K w.heap.size [some b_32, some b_8, some v_3]) v_483 y_372.1 := R_484.mv 2 rfl
             replace B_33 : Bx gt0 33 w_493 (Kx K w.heap.size [some b_32, some b_8, some v_3]) b_32 y_26 := B_33.mv 2 rfl
             replace W : Wd w w_493 [some b_32, some b_8, some v_3] := W.mv 2 rfl
             exact ⟨S.sub (by exact ⟨rfl, rfl, rfl, rfl, rfl, rfl, trivial⟩), W, R0, O_497, B_9, B_33⟩
            ·
             refine an_step (i := 21) rfl S rfl (op_load (t := (.int .u8)) (x := y_26.2.2) S rfl ty5 rfl rfl rfl (RepAt.add 2 (RepAt.st (t := gf0) B_33.at_)) ?_)
             clear S; intro a v_498 R_499 S
             obtain ⟨rfl, GR_499⟩ := RepV.int R_499
             refine an_go (k := 4) (i := 19) (by kernel_rfl) rfl S rfl (op_load_set S st72 rfl rfl rfl rfl B_9 ?_)
             clear S; intro a S
             replace R0 : RepV (.sl gt0) w_488 (Kx K w.heap.size [some v_3, some b_32, some b_8]) v0 x0 := R0.mv 2 rfl
             replace R_479 : RepV (.sl (.int .u8)) w_488 (Kx K w.heap.size [some v_3, some b_32, some b_8]) v_478 y_26.1 := R_479.mv 2 rfl
             replace R_484 : RepV (.sl (.int .u8)) w_488 (Kx K w.heap.size [some v_3, some b_32, some b_8]) v_483 y_372.1 := R_484.mv 2 rfl
             replace B_33 : Bx gt0 33 w_488 (Kx K w.heap.size [some v_3, some b_32, some b_8]) b_32 y_26 := B_33.mv 2 rfl
             replace W : Wd w w_488 [some v_3, some b_32, some b_8] := W.mv 2 rfl
             refine an_go (k := 3) (i := 22) (by kernel_rfl) rfl S rfl (op_call (vs := [.agg #[.map (some v_3)], .int .u8 y_26.2.2]) S rfl cb36 rfl rfl rfl (c36 K n w w_488 [some b_32, some b_8] _ c_17 R_4 y_26.2.2 GR_499 W et_421) ?_)
             rintro _ w_500 ⟨v_502, rfl, R_503, O_504, Y_501⟩; refine ⟨_, rfl, ?_⟩
             clear S; intro a S
             replace R0 : RepV (.sl gt0) w_500 (Kx K w.heap.size [some v_3, some b_32, some b_8]) v0 x0 := RepV.yfr (P := [some v_3]) [some b_32, some b_8] R0 Y_501
             replace R_479 : RepV (.sl (.int .u8)) w_500 (Kx K w.heap.size [some v_3, some b_32, some b_8]) v_478 y_26.1 := RepV.yfr (P := [some v_3]) [some b_32, some b_8] R_479 Y_501
             replace R_484 : RepV (.sl (.int .u8)) w_500 (Kx K w.heap.size [some v_3, some b_32, some b_8]) v_483 y_372.1 := RepV.yfr (P := [some v_3]) [some b_32, some b_8] R_484 Y_501
             replace B_9 : Ox (.cells #[.map (some v_3)] 72 (0, 0)) w_500 b_8 := Ox.yfr (P := [some v_3]) [some b_32, some b_8] B_9 Y_501 W (List.mem_of_getElem? (i := 1) rfl)
             replace B_33 : Bx gt0 33 w_500 (Kx K w.heap.size [some v_3, some b_32, some b_8]) b_32 y_26 := Bx.yfr (P := [some v_3]) [some b_32, some b_8] B_33 Y_501 W (List.mem_of_getElem? (i := 0) rfl)
             replace W : Wd w w_500 [some v_3, some b_32, some b_8] := Wd.yfr (P := [some v_3]) [some b_32, some b_8] W Y_501
             replace O_504 : Mp .u8 w_500 v_3 t_421.2 := O_504
             replace R_503 : RepV .bool w_500 (Kx K w.heap.size [some v_3, some b_32, some b_8]) v_502 t_421.1 := R_503
             obtain rfl := RepV.bool R_503
             refine an_pures (k := 0) (l1 := [(73, .bool (!t_421.1)), (72, .bool (!t_421.1)), (71, .bool (!t_421.1)), (70, .bool t_421.1), (67, .agg #[.map (some v_3)]), (69, .int .u8 y_26.2.2), (68, .pointer (some ((⟨b_32, 0, .none⟩ : Addr).add (coff gf0 2)))), (66, .bool true), (65, .bool true), (64, .int .u8 y_26.2.1), (63, .pointer (some ((⟨b_32, 0, .none⟩ : Addr).add (coff gf0 1)))), (62, .bool false), (61, .bool false), (60, .bool false), (59, .int .i64 t_380), (56, v_483), (55, .pointer (some (p_480.add (coff gf0 0)))), (54, .pointer (some p_480)), (53, .int .i64 x_371), (58, v_478), (57, .pointer (some ((⟨b_32, 0, .none⟩ : Addr).add (coff gf0 0)))), (52, .int .i64 c_15), (51, v0), (50, .bool true), (49, .bool true), (48, .int .i64 c_15), (4, .int .i64 c_15), (5, pB b_32), (12, .int .i64 c_15), (11, .int .i64 (lenI x0)), (10, v0), (3, pB b_8), (0, v0)]) tys tys_ok (by kernel_rfl) hQ_ [23, 24, 25] S (by kernel_rfl) (by kernel_rfl) ?_; clear S; intro a S
             refine an_end (by kernel_rfl) ?_
             refine then_n ?_
             replace R0 : RepV (.sl gt0) w_500 (Kx K w.heap.size [some b_8, some v_3, some b_32]) v0 x0 := R0.mv 2 rfl
             replace R_479 : RepV (.sl (.int .u8)) w_500 (Kx K w.heap.size [some b_8, some v_3, some b_32]) v_478 y_26.1 := R_479.mv 2 rfl
             replace R_484 : RepV (.sl (.int .u8)) w_500 (Kx K w.heap.size [some b_8, some v_3, some b_32]) v_483 y_372.1 := R_484.mv 2 rfl
             replace B_33 : Bx gt0 33 w_500 (Kx K w.heap.size [some b_8, some v_3, some b_32]) b_32 y_26 := B_33.mv 2 rfl
             replace W : Wd w w_500 [some b_8, some v_3, some b_32] := W.mv 2 rfl
             replace R0 : RepV (.sl gt0) w_500 (Kx K w.heap.size [some b_32, some b_8, some v_3]) v0 x0 := R0.mv 2 rfl
             replace R_479 : RepV (.sl (.int .u8)) w_500 (Kx K w.heap.size [some b_32, some b_8, some v_3]) v_478 y_26.1 := R_479.mv 2 rfl
             replace R_484 : RepV (.sl (.int .u8)) w_500 (Kx K w.heap.size [some b_32, some b_8, some v_3]) v_483 y_372.1 := R_484.mv 2 rfl
             replace B_33 : Bx gt0 33 w_500 (Kx K w.heap.size [some b_32, some b_8, some v_3]) b_32 y_26 := B_33.mv 2 rfl
             replace W : Wd w w_500 [some b_32, some b_8, some v_3] := W.mv 2 rfl
             exact ⟨S.sub (by exact ⟨rfl, rfl, rfl, rfl, rfl, rfl, trivial⟩), W, R0, O_504, B_9, B_33⟩
          ·
           rw [if_neg hc_418] at ej_367
           obtain rfl := Option.some.inj ej_367
           refine an_pures (k := 23) (l1 := [(50, .bool (decide (c_15 > 0))), (49, .bool (decide (c_15 > 0))), (48, .int .i64 c_15), (4, .int .i64 c_15), (5, pB b_32), (12, .int .i64 c_15), (11, .int .i64 (lenI x0)), (10, v0), (3, pB b_8), (0, v0)]) tys tys_ok (by kernel_rfl) hQ_ [0, 1, 2] S (by kernel_rfl) (by kernel_rfl) ?_; clear S; intro a S
           rw [show (decide (c_15 > 0)) = true from hc_370] at S
           refine an_pures (k := 20) (l1 := [(57, .pointer (some ((⟨b_32, 0, .none⟩ : Addr).add (coff gf0 0)))), (52, .int .i64 c_15), (51, v0), (50, .bool true), (49, .bool true), (48, .int .i64 c_15), (4, .int .i64 c_15), (5, pB b_32), (12, .int .i64 c_15), (11, .int .i64 (lenI x0)), (10, v0), (3, pB b_8), (0, v0)]) tys tys_ok (by kernel_rfl) hQ_ [3, 4, 9] S (by kernel_rfl) (by kernel_rfl) ?_; clear S; intro a S
           refine an_fork (k := 19) (is := [5, 10]) (by kernel_rfl) rfl ⟨?_, ?_, trivial⟩
           ·
            refine an_step (i := 5) rfl S rfl (op_arith S .i64 (c_15 - 1) rfl (.inr (.inl rfl)) rfl rfl rfl rfl ex_371 ?_)
            clear S; intro a S
            refine an_first (k := 18) (i := 6) (by kernel_rfl) hQ_ (by kernel_rfl) rfl rfl S rfl (op_indexAddr S rfl ty23 rfl rfl rfl R0 rfl ey_372 ?_)
            clear S; intro a p_505 R_506 H_507 S
            intro _
            refine an_pures (k := 17) (l1 := [(55, .pointer (some (p_505.add (coff gf0 0)))), (54, .pointer (some p_505)), (53, .int .i64 x_371), (57, .pointer (some ((⟨b_32, 0, .none⟩ : Addr).add (coff gf0 0)))), (52, .int .i64 c_15), (51, v0), (50, .bool true), (49, .bool true), (48, .int .i64 c_15), (4, .int .i64 c_15), (5, pB b_32), (12, .int .i64 c_15), (11, .int .i64 (lenI x0)), (10, v0), (3, pB b_8), (0, v0)]) tys tys_ok (by kernel_rfl) hQ_ [7] S (by kernel_rfl) (by kernel_rfl) ?_; clear S; intro a S
            refine an_fork (k := 16) (is := [8, 10]) (by kernel_rfl) rfl ⟨?_, ?_, trivial⟩
            ·
             refine an_step (i := 8) rfl S rfl (op_load (t := (.sl (.int .u8))) (x := y_372.1) S rfl ty25 rfl rfl rfl (RepAt.add 0 (RepAt.st (t := gf0) R_506)) ?_)
             clear S; intro a v_508 R_509 S
             refine an_go (k := 15) (i := 10) (by kernel_rfl) rfl S rfl (op_load (t := (.sl (.int .u8))) (x := y_26.1) S rfl ty25 rfl rfl rfl (RepAt.add 0 (RepAt.st (t := gf0) B_33.at_)) ?_)
             clear S; intro a v_510 R_511 S
             refine an_go (k := 14) (i := 11) (by kernel_rfl) rfl S rfl (op_call (vs := [v_508, v_510]) S rfl cb35 rfl rfl rfl (c35 (Kx K w.heap.size [some b_32, some b_8, some v_3]) n w_368 y_372.1 _ R_509 y_26.1 _ R_511 et_380) ?_)
             rintro _ w_515 ⟨v_512, rfl, R_513, hb_514⟩; refine ⟨_, rfl, ?_⟩
             replace R_513 := RepV.back R_513 W
             clear S; intro a S
             replace R0 := R0.step hb_514
             replace R_509 := R_509.step hb_514
             replace R_511 := R_511.step hb_514
             replace R_4 := R_4.step hb_514
             replace B_9 := B_9.step hb_514
             replace B_33 := B_33.step hb_514
             replace W := W.step hb_514
             obtain ⟨rfl, GR_513⟩ := RepV.int R_513
             refine an_pures (k := 11) (l1 := [(62, .bool (decide (t_380 ≥ 0))), (61, .bool (decide (t_380 ≥ 0))), (60, .bool (decide (t_380 ≥ 0))), (59, .int .i64 t_380), (58, v_510), (56, v_508), (55, .pointer (some (p_505.add (coff gf0 0)))), (54, .pointer (some p_505)), (53, .int .i64 x_371), (57, .pointer (some ((⟨b_32, 0, .none⟩ : Addr).add (coff gf0 0)))), (52, .int .i64 c_15), (51, v0), (50, .bool true), (49, .bool true), (48, .int .i64 c_15), (4, .int .i64 c_15), (5, pB b_32), (12, .int .i64 c_15), (11, .int .i64 (lenI x0)), (10, v0), (3, pB b_8), (0, v0)]) tys tys_ok (by kernel_rfl) hQ_ [12, 13, 14] S (by kernel_rfl) (by kernel_rfl) ?_; clear S; intro a S
             rw [show (decide (t_380 ≥ 0)) = false from (Bool.eq_false_iff.2 hc_385)] at S
             refine an_pures (k := 10) (l1 := [(63, .pointer (some ((⟨b_32, 0, .none⟩ : Addr).add (coff gf0 1)))), (62, .bool false), (61, .bool false), (60, .bool false), (59, .int .i64 t_380), (58, v_510), (56, v_508), (55, .pointer (some (p_505.add (coff gf0 0)))), (54, .pointer (some p_505)), (53, .int .i64 x_371), (57, .pointer (some ((⟨b_32, 0, .none⟩ : Addr).add (coff gf0 0)))), (52, .int .i64 c_15), (51, v0), (50, .bool true), (49, .bool true), (48, .int .i64 c_15), (4, .int .i64 c_15), (5, pB b_32), (12, .int .i64 c_15), (11, .int .i64 (lenI x0)), (10, v0), (3, pB b_8), (0, v0)]) tys tys_ok (by kernel_rfl) hQ_ [15] S (by kernel_rfl) (by kernel_rfl) ?_; clear S; intro a S
             refine an_go (k := 9) (i := 16) (by kernel_rfl) rfl S rfl (op_load (t := (.int .u8)) (x := y_26.2.1) S rfl ty29 rfl rfl rfl (RepAt.add 1 (RepAt.st (t := gf0) B_33.at_)) ?_)
             clear S; intro a v_516 R_517 S
             obtain ⟨rfl, GR_517⟩ := RepV.int R_517
             refine an_pures (k := 7) (l1 := [(66, .bool (y_26.2.1 == 2)), (65, .bool (y_26.2.1 == 2)), (64, .int .u8 y_26.2.1), (63, .pointer (some ((⟨b_32, 0, .none⟩ : Addr).add (coff gf0 1)))), (62, .bool false), (61, .bool false), (60, .bool false), (59, .int .i64 t_380), (58, v_510), (56, v_508), (55, .pointer (some (p_505.add (coff gf0 0)))), (54, .pointer (some p_505)), (53, .int .i64 x_371), (57, .pointer (some ((⟨b_32, 0, .none⟩ : Addr).add (coff gf0 0)))), (52, .int .i64 c_15), (51, v0), (50, .bool true), (49, .bool true), (48, .int .i64 c_15), (4, .int .i64 c_15), (5, pB b_32), (12, .int .i64 c_15), (11, .int .i64 (lenI x0)), (10, v0), (3, pB b_8), (0, v0)]) tys tys_ok (by kernel_rfl) hQ_ [17, 18] S (by kernel_rfl) (by kernel_rfl) ?_; clear S; intro a S
             rw [show (y_26.2.1 == 2) = false from (Bool.eq_false_iff.2 hc_418)] at S
             refine an_pures (k := 0) (l1 := [(73, .bool false), (72, .bool false), (71, undef), (70, undef), (69, undef), (68, undef), (67, undef), (66, .bool false), (65, .bool false), (64, .int .u8 y_26.2.1), (63, .pointer (some ((⟨b_32, 0, .none⟩ : Addr).add (coff gf0 1)))), (62, .bool false), (61, .bool false), (60, .bool false), (59, .int .i64 t_380), (58, v_510), (56, v_508), (55, .pointer (some (p_505.add (coff gf0 0)))), (54, .pointer (some p_505)), (53, .int .i64 x_371), (57, .pointer (some ((⟨b_32, 0, .none⟩ : Addr).add (coff gf0 0)))), (52, .int .i64 c_15), (51, v0), (50, .bool true), (49, .bool true), (48, .int .i64 c_15), (4, .int .i64 c_15), (5, pB b_32), (12, .int .i64 c_15), (11, .int .i64 (lenI x0)), (10, v0), (3, pB b_8), (0, v0)]) tys tys_ok (by kernel_rfl) hQ_ [19, 20, 21, 22, 23, 24, 25] S (by kernel_rfl) (by kernel_rfl) ?_; clear S; intro a S
             refine an_end (by kernel_rfl) ?_
             refine then_n ?_
             exact ⟨S.sub (by exact ⟨rfl, rfl, rfl, rfl, rfl, rfl, trivial⟩), W, R0, R_4, B_9, B_33⟩
            ·
             refine an_step (i := 10) rfl S rfl (op_load (t := (.sl (.int .u8))) (x := y_26.1) S rfl ty25 rfl rfl rfl (RepAt.add 0 (RepAt.st (t := gf0) B_33.at_)) ?_)
             clear S; intro a v_518 R_519 S
             refine an_go (k := 15) (i := 8) (by kernel_rfl) rfl S rfl (op_load (t := (.sl (.int .u8))) (x := y_372.1) S rfl ty25 rfl rfl rfl (RepAt.add 0 (RepAt.st (t := gf0) R_506)) ?_)
             clear S; intro a v_520 R_521 S
             refine an_go (k := 14) (i := 11) (by kernel_rfl) rfl S rfl (op_call (vs := [v_520, v_518]) S rfl cb35 rfl rfl rfl (c35 (Kx K w.heap.size [some b_32, some b_8, some v_3]) n w_368 y_372.1 _ R_521 y_26.1 _ R_519 et_380) ?_)
             rintro _ w_525 ⟨v_522, rfl, R_523, hb_524⟩; refine ⟨_, rfl, ?_⟩
             replace R_523 := RepV.back R_523 W
             clear S; intro a S
             replace R0 := R0.step hb_524
             replace R_519 := R_519.step hb_524
             replace R_521 := R_521.step hb_524
             replace R_4 := R_4.step hb_524
             replace B_9 := B_9.step hb_524
             replace B_33 := B_33.step hb_524
             replace W := W.step hb_524
             obtain ⟨rfl, GR_523⟩ := RepV.int R_523
             refine an_pures (k := 11) (l1 := [(62, .bool (decide (t_380 ≥ 0))), (61, .bool (decide (t_380 ≥ 0))), (60, .bool (decide (t_380 ≥ 0))), (59, .int .i64 t_380), (56, v_520), (58, v_518), (55, .pointer (some (p_505.add (coff gf0 0)))), (54, .pointer (some p_505)), (53, .int .i64 x_371), (57, .pointer (some ((⟨b_32, 0, .none⟩ : Addr).add (coff gf0 0)))), (52, .int .i64 c_15), (51, v0), (50, .bool true), (49, .bool true), (48, .int .i64 c_15), (4, .int .i64 c_15), (5, pB b_32), (12, .int .i64 c_15), (11, .int .i64 (lenI x0)), (10, v0), (3, pB b_8), (0, v0)]) tys tys_ok (by kernel_rfl) hQ_ [12, 13, 14] S (by kernel_rfl) (by kernel_rfl) ?_; clear S; intro a S
             rw [show (decide (t_380 ≥ 0)) = false from (Bool.eq_false_iff.2 hc_385)] at S
             refine an_pures (k := 10) (l1 := [(63, .pointer (some ((⟨b_32, 0, .none⟩ : Addr).add (coff gf0 1)))), (62, .bool false), (61, .bool false), (60, .bool false), (59, .int .i64 t_380), (56, v_520), (58, v_518), (55, .pointer (some (p_505.add (coff gf0 0)))), (54, .pointer (some p_505)), (53, .int .i64 x_371), (57, .pointer (some ((⟨b_32, 0, .none⟩ : Addr).add (coff gf0 0)))), (52, .int .i64 c_15), (51, v0), (50, .bool true), (49, .bool true), (48, .int .i64 c_15), (4, .int .i64 c_15), (5, pB b_32), (12, .int .i64 c_15), (11, .int .i64 (lenI x0)), (10, v0), (3, pB b_8), (0, v0)]) tys tys_ok (by kernel_rfl) hQ_ [15] S (by kernel_rfl) (by kernel_rfl) ?_; clear S; intro a S
             refine an_go (k := 9) (i := 16) (by kernel_rfl) rfl S rfl (op_load (t := (.int .u8)) (x := y_26.2.1) S rfl ty29 rfl rfl rfl (RepAt.add 1 (RepAt.st (t := gf0) B_33.at_)) ?_)
             clear S; intro a v_526 R_527 S
             obtain ⟨rfl, GR_527⟩ := RepV.int R_527
             refine an_pures (k := 7) (l1 := [(66, .bool (y_26.2.1 == 2)), (65, .bool (y_26.2.1 == 2)), (64, .int .u8 y_26.2.1), (63, .pointer (some ((⟨b_32, 0, .none⟩ : Addr).add (coff gf0 1)))), (62, .bool false), (61, .bool false), (60, .bool false), (59, .int .i64 t_380), (56, v_520), (58, v_518), (55, .pointer (some (p_505.add (coff gf0 0)))), (54, .pointer (some p_505)), (53, .int .i64 x_371), (57, .pointer (some ((⟨b_32, 0, .none⟩ : Addr).add (coff gf0 0)))), (52, .int .i64 c_15), (51, v0), (50, .bool true), (49, .bool true), (48, .int .i64 c_15), (4, .int .i64 c_15), (5, pB b_32), (12, .int .i64 c_15), (11, .int .i64 (lenI x0)), (10, v0), (3, pB b_8), (0, v0)]) tys tys_ok (by kernel_rfl) hQ_ [17, 18] S (by kernel_rfl) (by kernel_rfl) ?_; clear S; intro a S
             rw [show (y_26.2.1 == 2) = false from (Bool.eq_false_iff.2 hc_418)] at S
             refine an_pures (k := 0) (l1 := [(73, .bool false), (72, .bool false), (71, undef), (70, undef), (69, undef), (68, undef), (67, undef), (66, .bool false), (65, .bool false), (64, .int .u8 y_26.2.1), (63, .pointer (some ((⟨b_32, 0, .none⟩ : Addr).add (coff gf0 1)))), (62, .bool false), (61, .bool false), (60, .bool false), (59, .int .i64 t_380), (56, v_520), (58, v_518), (55, .pointer (some (p_505.add (coff gf0 0)))), (54, .pointer (some p_505)), (53, .int .i64 x_371), (57, .pointer (some ((⟨b_32, 0, .none⟩ : Addr).add (coff gf0 0)))), (52, .int .i64 c_15), (51, v0), (50, .bool true), (49, .bool true), (48, .int .i64 c_15), (4, .int .i64 c_15), (5, pB b_32), (12, .int .i64 c_15), (11, .int .i64 (lenI x0)), (10, v0), (3, pB b_8), (0, v0)]) tys tys_ok (by kernel_rfl) hQ_ [19, 20, 21, 22, 23, 24, 25] S (by kernel_rfl) (by kernel_rfl) ?_; clear S; intro a S
             refine an_end (by kernel_rfl) ?_
             refine then_n ?_
             exact ⟨S.sub (by exact ⟨rfl, rfl, rfl, rfl, rfl, rfl, trivial⟩), W, R0, R_4, B_9, B_33⟩
           ·
            refine an_step (i := 10) rfl S rfl (op_load (t := (.sl (.int .u8))) (x := y_26.1) S rfl ty25 rfl rfl rfl (RepAt.add 0 (RepAt.st (t := gf0) B_33.at_)) ?_)
            clear S; intro a v_528 R_529 S
            refine an_go (k := 18) (i := 5) (by kernel_rfl) rfl S rfl (op_arith S .i64 (c_15 - 1) rfl (.inr (.inl rfl)) rfl rfl rfl rfl ex_371 ?_)
            clear S; intro a S
            refine an_go (k := 17) (i := 6) (by kernel_rfl) rfl S rfl (op_indexAddr S rfl ty23 rfl rfl rfl R0 rfl ey_372 ?_)
            clear S; intro a p_530 R_531 H_532 S
            refine an_pures (k := 16) (l1 := [(55, .pointer (some (p_530.add (coff gf0 0)))), (54, .pointer (some p_530)), (53, .int .i64 x_371), (58, v_528), (57, .pointer (some ((⟨b_32, 0, .none⟩ : Addr).add (coff gf0 0)))), (52, .int .i64 c_15), (51, v0), (50, .bool true), (49, .bool true), (48, .int .i64 c_15), (4, .int .i64 c_15), (5, pB b_32), (12, .int .i64 c_15), (11, .int .i64 (lenI x0)), (10, v0), (3, pB b_8), (0, v0)]) tys tys_ok (by kernel_rfl) hQ_ [7] S (by kernel_rfl) (by kernel_rfl) ?_; clear S; intro a S
            refine an_go (k := 15) (i := 8) (by kernel_rfl) rfl S rfl (op_load (t := (.sl (.int .u8))) (x := y_372.1) S rfl ty25 rfl rfl rfl (RepAt.add 0 (RepAt.st (t := gf0) R_531)) ?_)
            clear S; intro a v_533 R_534 S
            refine an_go (k := 14) (i := 11) (by kernel_rfl) rfl S rfl (op_call (vs := [v_533, v_528]) S rfl cb35 rfl rfl rfl (c35 (Kx K w.heap.size [some b_32, some b_8, some v_3]) n w_368 y_372.1 _ R_534 y_26.1 _ R_529 et_380) ?_)
            rintro _ w_538 ⟨v_535, rfl, R_536, hb_537⟩; refine ⟨_, rfl, ?_⟩
            replace R_536 := RepV.back R_536 W
            clear S; intro a S
            replace R0 := R0.step hb_537
            replace R_529 := R_529.step hb_537
            replace R_534 := R_534.step hb_537
            replace R_4 := R_4.step hb_537
            replace B_9 := B_9.step hb_537
            replace B_33 := B_33.step hb_537
            replace W := W.step hb_537
            obtain ⟨rfl, GR_536⟩ := RepV.int R_536
            refine an_pures (k := 11) (l1 := [(62, .bool (decide (t_380 ≥ 0))), (61, .bool (decide (t_380 ≥ 0))), (60, .bool (decide (t_380 ≥ 0))), (59, .int .i64 t_380), (56, v_533), (55, .pointer (some (p_530.add (coff gf0 0)))), (54, .pointer (some p_530)), (53, .int .i64 x_371), (58, v_528), (57, .pointer (some ((⟨b_32, 0, .none⟩ : Addr).add (coff gf0 0)))), (52, .int .i64 c_15), (51, v0), (50, .bool true), (49, .bool true), (48, .int .i64 c_15), (4, .int .i64 c_15), (5, pB b_32), (12, .int .i64 c_15), (11, .int .i64 (lenI x0)), (10, v0), (3, pB b_8), (0, v0)]) tys tys_ok (by kernel_rfl) hQ_ [12, 13, 14] S (by kernel_rfl) (by kernel_rfl) ?_; clear S; intro a S
            rw [show (decide (t_380 ≥ 0)) = false from (Bool.eq_false_iff.2 hc_385)] at S
            refine an_pures (k := 10) (l1 := [(63, .pointer (some ((⟨b_32, 0, .none⟩ : Addr).add (coff gf0 1)))), (62, .bool false), (61, .bool false), (60, .bool false), (59, .int .i64 t_380), (56, v_533), (55, .pointer (some (p_530.add (coff gf0 0)))), (54, .pointer (some p_530)), (53, .int .i64 x_371), (58, v_528), (57, .pointer (some ((⟨b_32, 0, .none⟩ : Addr).add (coff gf0 0)))), (52, .int .i64 c_15), (51, v0), (50, .bool true), (49, .bool true), (48, .int .i64 c_15), (4, .int .i64 c_15), (5, pB b_32), (12, .int .i64 c_15), (11, .int .i64 (lenI x0)), (10, v0), (3, pB b_8), (0, v0)]) tys tys_ok (by kernel_rfl) hQ_ [15] S (by kernel_rfl) (by kernel_rfl) ?_; clear S; intro a S
            refine an_go (k := 9) (i := 16) (by kernel_rfl) rfl S rfl (op_load (t := (.int .u8)) (x := y_26.2.1) S rfl ty29 rfl rfl rfl (RepAt.add 1 (RepAt.st (t := gf0) B_33.at_)) ?_)
            clear S; intro a v_539 R_540 S
            obtain ⟨rfl, GR_540⟩ := RepV.int R_540
            refine an_pures (k := 7) (l1 := [(66, .bool (y_26.2.1 == 2)), (65, .bool (y_26.2.1 == 2)), (64, .int .u8 y_26.2.1), (63, .pointer (some ((⟨b_32, 0, .none⟩ : Addr).add (coff gf0 1)))), (62, .bool false), (61, .bool false), (60, .bool false), (59, .int .i64 t_380), (56, v_533), (55, .pointer (some (p_530.add (coff gf0 0)))), (54, .pointer (some p_530)), (53, .int .i64 x_371), (58, v_528), (57, .pointer (some ((⟨b_32, 0, .none⟩ : Addr).add (coff gf0 0)))), (52, .int .i64 c_15), (51, v0), (50, .bool true), (49, .bool true), (48, .int .i64 c_15), (4, .int .i64 c_15), (5, pB b_32), (12, .int .i64 c_15), (11, .int .i64 (lenI x0)), (10, v0), (3, pB b_8), (0, v0)]) tys tys_ok (by kernel_rfl) hQ_ [17, 18] S (by kernel_rfl) (by kernel_rfl) ?_; clear S; intro a S
            rw [show (y_26.2.1 == 2) = false from (Bool.eq_false_iff.2 hc_418)] at S
            refine an_pures (k := 0) (l1 := [(73, .bool false), (72, .bool false), (71, undef), (70, undef), (69, undef), (68, undef), (67, undef), (66, .bool false), (65, .bool false), (64, .int .u8 y_26.2.1), (63, .pointer (some ((⟨b_32, 0, .none⟩ : Addr).add (coff gf0 1)))), (62, .bool false), (61, .bool false), (60, .bool false), (59, .int .i64 t_380), (56, v_533), (55, .pointer (some (p_530.add (coff gf0 0)))), (54, .pointer (some p_530)), (53, .int .i64 x_371), (58, v_528), (57, .pointer (some ((⟨b_32, 0, .none⟩ : Addr).add (coff gf0 0)))), (52, .int .i64 c_15), (51, v0), (50, .bool true), (49, .bool true), (48, .int .i64 c_15), (4, .int .i64 c_15), (5, pB b_32), (12, .int .i64 c_15), (11, .int .i64 (lenI x0)), (10, v0), (3, pB b_8), (0, v0)]) tys tys_ok (by kernel_rfl) hQ_ [19, 20, 21, 22, 23, 24, 25] S (by kernel_rfl) (by kernel_rfl) ?_; clear S; intro a S
            refine an_end (by kernel_rfl) ?_
            refine then_n ?_
            exact ⟨S.sub (by exact ⟨rfl, rfl, rfl, rfl, rfl, rfl, trivial⟩), W, R0, R_4, B_9, B_33⟩
        ·
         rw [if_neg hc_370] at ej_367
         by_cases hc_543 : (y_26.2.1 == 2) = true
         ·
          rw [if_pos hc_543] at ej_367
          obtain ⟨t_546, et_546, ej_367⟩ := bindS ej_367
          obtain rfl := Option.some.inj ej_367
          refine an_pures (k := 23) (l1 := [(50, .bool (decide (c_15 > 0))), (49, .bool (decide (c_15 > 0))), (48, .int .i64 c_15), (4, .int .i64 c_15), (5, pB b_32), (12, .int .i64 c_15), (11, .int .i64 (lenI x0)), (10, v0), (3, pB b_8), (0, v0)]) tys tys_ok (by kernel_rfl) hQ_ [0, 1, 2] S (by kernel_rfl) (by kernel_rfl) ?_; clear S; intro a S
          rw [show (decide (c_15 > 0)) = false from (Bool.eq_false_iff.2 hc_370)] at S
          refine an_pures (k := 10) (l1 := [(63, .pointer (some ((⟨b_32, 0, .none⟩ : Addr).add (coff gf0 1)))), (62, .bool false), (61, .bool false), (60, undef), (59, undef), (58, undef), (57, undef), (56, undef), (55, undef), (54, undef), (53, undef), (52, undef), (51, undef), (50, .bool false), (49, .bool false), (48, .int .i64 c_15), (4, .int .i64 c_15), (5, pB b_32), (12, .int .i64 c_15), (11, .int .i64 (lenI x0)), (10, v0), (3, pB b_8), (0, v0)]) tys tys_ok (by kernel_rfl) hQ_ [3, 4, 5, 6, 7, 8, 9, 10, 11, 12, 13, 14, 15] S (by kernel_rfl) (by kernel_rfl) ?_; clear S; intro a S
          refine an_go (k := 9) (i := 16) (by kernel_rfl) rfl S rfl (op_load (t := (.int .u8)) (x := y_26.2.1) S rfl ty29 rfl rfl rfl (RepAt.add 1 (RepAt.st (t := gf0) B_33.at_)) ?_)
          clear S; intro a v_552 R_553 S
          obtain ⟨rfl, GR_553⟩ := RepV.int R_553
          refine an_pures (k := 7) (l1 := [(66, .bool (y_26.2.1 == 2)), (65, .bool (y_26.2.1 == 2)), (64, .int .u8 y_26.2.1), (63, .pointer (some ((⟨b_32, 0, .none⟩ : Addr).add (coff gf0 1)))), (62, .bool false), (61, .bool false), (60, undef), (59, undef), (58, undef), (57, undef), (56, undef), (55, undef), (54, undef), (53, undef), (52, undef), (51, undef), (50, .bool false), (49, .bool false), (48, .int .i64 c_15), (4, .int .i64 c_15), (5, pB b_32), (12, .int .i64 c_15), (11, .int .i64 (lenI x0)), (10, v0), (3, pB b_8), (0, v0)]) tys tys_ok (by kernel_rfl) hQ_ [17, 18] S (by kernel_rfl) (by kernel_rfl) ?_; clear S; intro a S
          rw [show (y_26.2.1 == 2) = true from hc_543] at S
          refine an_pures (k := 6) (l1 := [(68, .pointer (some ((⟨b_32, 0, .none⟩ : Addr).add (coff gf0 2)))), (66, .bool true), (65, .bool true), (64, .int .u8 y_26.2.1), (63, .pointer (some ((⟨b_32, 0, .none⟩ : Addr).add (coff gf0 1)))), (62, .bool false), (61, .bool false), (60, undef), (59, undef), (58, undef), (57, undef), (56, undef), (55, undef), (54, undef), (53, undef), (52, undef), (51, undef), (50, .bool false), (49, .bool false), (48, .int .i64 c_15), (4, .int .i64 c_15), (5, pB b_32), (12, .int .i64 c_15), (11, .int .i64 (lenI x0)), (10, v0), (3, pB b_8), (0, v0)]) tys tys_ok (by kernel_rfl) hQ_ [20] S (by kernel_rfl) (by kernel_rfl) ?_; clear S; intro a S
          refine an_fork (k := 5) (is := [19, 21]) (by kernel_rfl) rfl ⟨?_, ?_, trivial⟩
          ·
           refine an_step (i := 19) rfl S rfl (op_load_set S st72 rfl rfl rfl rfl B_9 ?_)
           clear S; intro a S
           refine an_go (k := 4) (i := 21) (by kernel_rfl) rfl S rfl (op_load (t := (.int .u8)) (x := y_26.2.2) S rfl ty5 rfl rfl rfl (RepAt.add 2 (RepAt.st (t := gf0) B_33.at_)) ?_)
           clear S; intro a v_554 R_555 S
           obtain ⟨rfl, GR_555⟩ := RepV.int R_555
           replace R0 : RepV (.sl gt0) w_368 (Kx K w.heap.size [some v_3, some b_32, some b_8]) v0 x0 := R0.mv 2 rfl
           replace B_33 : Bx gt0 33 w_368 (Kx K w.heap.size [some v_3, some b_32, some b_8]) b_32 y_26 := B_33.mv 2 rfl
           replace W : Wd w w_368 [some v_3, some b_32, some b_8] := W.mv 2 rfl
           refine an_go (k := 3) (i := 22) (by kernel_rfl) rfl S rfl (op_call (vs := [.agg #[.map (some v_3)], .int .u8 y_26.2.2]) S rfl cb36 rfl rfl rfl (c36 K n w w_368 [some b_32, some b_8] _ c_17 R_4 y_26.2.2 GR_555 W et_546) ?_)
           rintro _ w_556 ⟨v_558, rfl, R_559, O_560, Y_557⟩; refine ⟨_, rfl, ?_⟩
           clear S; intro a S
           replace R0 : RepV (.sl gt0) w_556 (Kx K w.heap.size [some v_3, some b_32, some b_8]) v0 x0 := RepV.yfr (P := [some v_3]) [some b_32, some b_8] R0 Y_557
           replace B_9 : Ox (.cells #[.map (some v_3)] 72 (0, 0)) w_556 b_8 := Ox.yfr (P := [some v_3]) [some b_32, some b_8] B_9 Y_557 W (List.mem_of_getElem? (i := 1) rfl)
           replace B_33 : Bx gt0 33 w_556 (Kx K w.heap.size [some v_3, some b_32, some b_8]) b_32 y_26 := Bx.yfr (P := [some v_3]) [some b_32, some b_8] B_33 Y_557 W (List.mem_of_getElem? (i := 0) rfl)
           replace W : Wd w w_556 [some v_3, some b_32, some b_8] := Wd.yfr (P := [some v_3]) [some b_32, some b_8] W Y_557
           replace O_560 : Mp .u8 w_556 v_3 t_546.2 := O_560
           replace R_559 : RepV .bool w_556 (Kx K w.heap.size [some v_3, some b_32, some b_8]) v_558 t_546.1 := R_559
           obtain rfl := RepV.bool R_559
           refine an_pures (k := 0) (l1 := [(73, .bool (!t_546.1)), (72, .bool (!t_546.1)), (71, .bool (!t_546.1)), (70, .bool t_546.1), (69, .int .u8 y_26.2.2), (67, .agg #[.map (some v_3)]), (68, .pointer (some ((⟨b_32, 0, .none⟩ : Addr).add (coff gf0 2)))), (66, .bool true), (65, .bool true), (64, .int .u8 y_26.2.1), (63, .pointer (some ((⟨b_32, 0, .none⟩ : Addr).add (coff gf0 1)))), (62, .bool false), (61, .bool false), (60, undef), (59, undef), (58, undef), (57, undef), (56, undef), (55, undef), (54, undef), (53, undef), (52, undef), (51, undef), (50, .bool false), (49, .bool false), (48, .int .i64 c_15), (4, .int .i64 c_15), (5, pB b_32), (12, .int .i64 c_15), (11, .int .i64 (lenI x0)), (10, v0), (3, pB b_8), (0, v0)]) tys tys_ok (by kernel_rfl) hQ_ [23, 24, 25] S (by kernel_rfl) (by kernel_rfl) ?_; clear S; intro a S
           refine an_end (by kernel_rfl) ?_
           refine then_n ?_
           replace R0 : RepV (.sl gt0) w_556 (Kx K w.heap.size [some b_8, some v_3, some b_32]) v0 x0 := R0.mv 2 rfl
           replace B_33 : Bx gt0 33 w_556 (Kx K w.heap.size [some b_8, some v_3, some b_32]) b_32 y_26 := B_33.mv 2 rfl
           replace W : Wd w w_556 [some b_8, some v_3, some b_32] := W.mv 2 rfl
           replace R0 : RepV (.sl gt0) w_556 (Kx K w.heap.size [some b_32, some b_8, some v_3]) v0 x0 := R0.mv 2 rfl
           replace B_33 : Bx gt0 33 w_556 (Kx K w.heap.size [some b_32, some b_8, some v_3]) b_32 y_26 := B_33.mv 2 rfl
           replace W : Wd w w_556 [some b_32, some b_8, some v_3] := W.mv 2 rfl
           exact ⟨S.sub (by exact ⟨rfl, rfl, rfl, rfl, rfl, rfl, trivial⟩), W, R0, O_560, B_9, B_33⟩
          ·
           refine an_step (i := 21) rfl S rfl (op_load (t := (.int .u8)) (x := y_26.2.2) S rfl ty5 rfl rfl rfl (RepAt.add 2 (RepAt.st (t := gf0) B_33.at_)) ?_)
           clear S; intro a v_561 R_562 S
           obtain ⟨rfl, GR_562⟩ := RepV.int R_562
           refine an_go (k := 4) (i := 19) (by kernel_rfl) rfl S rfl (op_load_set S st72 rfl rfl rfl rfl B_9 ?_)
           clear S; intro a S
           replace R0 : RepV (.sl gt0) w_368 (Kx K w.heap.size [some v_3, some b_32, some b_8]) v0 x0 := R0.mv 2 rfl
           replace B_33 : Bx gt0 33 w_368 (Kx K w.heap.size [some v_3, some b_32, some b_8]) b_32 y_26 := B_33.mv 2 rfl
           replace W : Wd w w_368 [some v_3, some b_32, some b_8] := W.mv 2 rfl
           refine an_go (k := 3) (i := 22) (by kernel_rfl) rfl S rfl (op_call (vs := [.agg #[.map (some v_3)], .int .u8 y_26.2.2]) S rfl cb36 rfl rfl rfl (c36 K n w w_368 [some b_32, some b_8] _ c_17 R_4 y_26.2.2 GR_562 W et_546) ?_)
           rintro _ w_563 ⟨v_565, rfl, R_566, O_567, Y_564⟩; refine ⟨_, rfl, ?_⟩
           clear S; intro a S
           replace R0 : RepV (.sl gt0) w_563 (Kx K w.heap.size [some v_3, some b_32, some b_8]) v0 x0 := RepV.yfr (P := [some v_3]) [some b_32, some b_8] R0 Y_564
           replace B_9 : Ox (.cells #[.map (some v_3)] 72 (0, 0)) w_563 b_8 := Ox.yfr (P := [some v_3]) [some b_32, some b_8] B_9 Y_564 W (List.mem_of_getElem? (i := 1) rfl)
           replace B_33 : Bx gt0 33 w_563 (Kx K w.heap.size [some v_3, some b_32, some b_8]) b_32 y_26 := Bx.yfr (P := [some v_3]) [some b_32, some b_8] B_33 Y_564 W (List.mem_of_getElem? (i := 0) rfl)
           replace W : Wd w w_563 [some v_3, some b_32, some b_8] := Wd.yfr (P := [some v_3]) [some b_32, some b_8] W Y_564
           replace O_567 : Mp .u8 w_563 v_3 t_546.2 := O_567
           replace R_566 : RepV .bool w_563 (Kx K w.heap.size [some v_3, some b_32, some b_8]) v_565 t_546.1 := R_566
           obtain rfl := RepV.bool R_566
           refine an_pures (k := 0) (l1 := [(73, .bool (!t_546.1)), (72, .bool (!t_546.1)), (71, .bool (!t_546.1)), (70, .bool t_546.1), (67, .agg #[.map (some v_3)]), (69, .int .u8 y_26.2.2), (68, .pointer (some ((⟨b_32, 0, .none⟩ : Addr).add (coff gf0 2)))), (66, .bool true), (65, .bool true), (64, .int .u8 y_26.2.1), (63, .pointer (some ((⟨b_32, 0, .none⟩ : Addr).add (coff gf0 1)))), (62, .bool false), (61, .bool false), (60, undef), (59, undef), (58, undef), (57, undef), (56, undef), (55, undef), (54, undef), (53, undef), (52, undef), (51, undef), (50, .bool false), (49, .bool false), (48, .int .i64 c_15), (4, .int .i64 c_15), (5, pB b_32), (12, .int .i64 c_15), (11, .int .i64 (lenI x0)), (10, v0), (3, pB b_8), (0, v0)]) tys tys_ok (by kernel_rfl) hQ_ [23, 24, 25] S (by kernel_rfl) (by kernel_rfl) ?_; clear S; intro a S
           refine an_end (by kernel_rfl) ?_
           refine then_n ?_
           replace R0 : RepV (.sl gt0) w_563 (Kx K w.heap.size [some b_8, some v_3, some b_32]) v0 x0 := R0.mv 2 rfl
           replace B_33 : Bx gt0 33 w_563 (Kx K w.heap.size [some b_8, some v_3, some b_32]) b_32 y_26 := B_33.mv 2 rfl
           replace W : Wd w w_563 [some b_8, some v_3, some b_32] := W.mv 2 rfl
           replace R0 : RepV (.sl gt0) w_563 (Kx K w.heap.size [some b_32, some b_8, some v_3]) v0 x0 := R0.mv 2 rfl
           replace B_33 : Bx gt0 33 w_563 (Kx K w.heap.size [some b_32, some b_8, some v_3]) b_32 y_26 := B_33.mv 2 rfl
           replace W : Wd w w_563 [some b_32, some b_8, some v_3] := W.mv 2 rfl
           exact ⟨S.sub (by exact ⟨rfl, rfl, rfl, rfl, rfl, rfl, trivial⟩), W, R0, O_567, B_9, B_33⟩
         ·
          rw [if_neg hc_543] at ej_367
          obtain rfl := Option.some.inj ej_367
          refine an_pures (k := 23) (l1 := [(50, .bool (decide (c_15 > 0))), (49, .bool (decide (c_15 > 0))), (48, .int .i64 c_15), (4, .int .i64 c_15), (5, pB b_32), (12, .int .i64 c_15), (11, .int .i64 (lenI x0)), (10, v0), (3, pB b_8), (0, v0)]) tys tys_ok (by kernel_rfl) hQ_ [0, 1, 2] S (by kernel_rfl) (by kernel_rfl) ?_; clear S; intro a S
          rw [show (decide (c_15 > 0)) = false from (Bool.eq_false_iff.2 hc_370)] at S
          refine an_pures (k := 10) (l1 := [(63, .pointer (some ((⟨b_32, 0, .none⟩ : Addr).add (coff gf0 1)))), (62, .bool false), (61, .bool false), (60, undef), (59, undef), (58, undef), (57, undef), (56, undef), (55, undef), (54, undef), (53, undef), (52, undef), (51, undef), (50, .bool false), (49, .bool false), (48, .int .i64 c_15), (4, .int .i64 c_15), (5, pB b_32), (12, .int .i64 c_15), (11, .int .i64 (lenI x0)), (10, v0), (3, pB b_8), (0, v0)]) tys tys_ok (by kernel_rfl) hQ_ [3, 4, 5, 6, 7, 8, 9, 10, 11, 12, 13, 14, 15] S (by kernel_rfl) (by kernel_rfl) ?_; clear S; intro a S
          refine an_go (k := 9) (i := 16) (by kernel_rfl) rfl S rfl (op_load (t := (.int .u8)) (x := y_26.2.1) S rfl ty29 rfl rfl rfl (RepAt.add 1 (RepAt.st (t := gf0) B_33.at_)) ?_)
          clear S; intro a v_568 R_569 S
          obtain ⟨rfl, GR_569⟩ := RepV.int R_569
          refine an_pures (k := 7) (l1 := [(66, .bool (y_26.2.1 == 2)), (65, .bool (y_26.2.1 == 2)), (64, .int .u8 y_26.2.1), (63, .pointer (some ((⟨b_32, 0, .none⟩ : Addr).add (coff gf0 1)))), (62, .bool false), (61, .bool false), (60, undef), (59, undef), (58, undef), (57, undef), (56, undef), (55, undef), (54, undef), (53, undef), (52, undef), (51, undef), (50, .bool false), (49, .bool false), (48, .int .i64 c_15), (4, .int .i64 c_15), (5, pB b_32), (12, .int .i64 c_15), (11, .int .i64 (lenI x0)), (10, v0), (3, pB b_8), (0, v0)]) tys tys_ok (by kernel_rfl) hQ_ [17, 18] S (by kernel_rfl) (by kernel_rfl) ?_; clear S; intro a S
          rw [show (y_26.2.1 == 2) = false from (Bool.eq_false_iff.2 hc_543)] at S
          refine an_pures (k := 0) (l1 := [(73, .bool false), (72, .bool false), (71, undef), (70, undef), (69, undef), (68, undef), (67, undef), (66, .bool false), (65, .bool false), (64, .int .u8 y_26.2.1), (63, .pointer (some ((⟨b_32, 0, .none⟩ : Addr).add (coff gf0 1)))), (62, .bool false), (61, .bool false), (60, undef), (59, undef), (58, undef), (57, undef), (56, undef), (55, undef), (54, undef), (53, undef), (52, undef), (51, undef), (50, .bool false), (49, .bool false), (48, .int .i64 c_15), (4, .int .i64 c_15), (5, pB b_32), (12, .int .i64 c_15), (11, .int .i64 (lenI x0)), (10, v0), (3, pB b_8), (0, v0)]) tys tys_ok (by kernel_rfl) hQ_ [19, 20, 21, 22, 23, 24, 25] S (by kernel_rfl) (by kernel_rfl) ?_; clear S; intro a S
          refine an_end (by kernel_rfl) ?_
          refine then_n ?_
          exact ⟨S.sub (by exact ⟨rfl, rfl, rfl, rfl, rfl, rfl, trivial⟩), W, R0, R_4, B_9, B_33⟩
       clear S W; rintro a w_570 ⟨S, W, R0, R_4, B_9, B_33⟩
       refine then_n ?_
       refine wp_cond_split (S.eval (show ev _ _ = some (.bool j_367.1) from rfl)) ?_ ?_
       ·intro hc
        rw [if_pos hc] at hl_24
        refine wp_seq ?_
        refine wp_region_lit ?_
        refine wl_pureK (l' := [(2, .int .i64 1)]) S tys tys_ok 1 [2] (by kernel_rfl) ?_
        clear S; intro a S
        refine wpList_nil ?_
        refine then_n ?_
        refine wp_ret ?_
        refine blk_r ?_
        refine then_r ?_
        refine then_r ?_
        refine blk_r ?_
        refine then_r ?_
        refine then_r ?_
        obtain rfl := Option.some.inj hl_24
        obtain rfl := lr_inr h
        exact b_ret1 S rfl rfl ⟨_, rfl, (RepV.mkInt (by decide)), W.below⟩
       ·intro hc
        rw [if_neg (Bool.eq_false_iff.1 hc)] at hl_24
        refine wp_skip ?_
        refine blk_n ?_
        refine then_n ?_
        replace S := S.sub (l' := [(12, .int .i64 c_15), (11, .int .i64 (lenI x0)), (10, v0), (3, pB b_8), (0, v0)]) (by exact ⟨rfl, rfl, rfl, rfl, rfl, trivial⟩)
        refine wp_region_lit ?_
        obtain ⟨x_571, ex_571, hl_24⟩ := bindS hl_24
        refine w_go S rfl (op_arith S .i64 (c_15 + 1) rfl (.inl rfl) rfl rfl rfl rfl ex_571 ?_)
        clear S; intro a S
        refine wl_pure (l' := [(12, .int .i64 x_571), (74, .int .i64 x_571), (12, .int .i64 c_15), (11, .int .i64 (lenI x0)), (10, v0), (3, pB b_8), (0, v0)]) S tys tys_ok 1 (by kernel_rfl) ?_
        clear S; intro a S
        refine wpList_nil ?_
        refine then_n ?_
        exact ⟨x_571, j_367.2, ⟨S.sub (by exact ⟨rfl, rfl, rfl, rfl, rfl, trivial⟩), (W.drop 1), (ckI_some ex_571).2.1, (R0.drop 1), (R_4.drop 1), (B_9.drop 1), hl_24⟩⟩
     ·intro hc
      rw [if_neg (Bool.eq_false_iff.1 hc)] at hl_24
      refine wp_exit ?_
      refine then_x ?_
      refine then_x ?_
      refine blk_hit ?_
      refine then_n ?_
      obtain rfl := Option.some.inj hl_24
      exact ⟨_, rfl, ⟨S.sub trivial, W, R_4, B_9⟩⟩
  clear S W; rintro a w_572 ⟨s_22, rfl, S, W, R_4, B_9⟩
  replace h := lr_inl h; try dsimp only at h
  refine then_n ?_
  refine wp_seq ?_
  refine wp_region_lit ?_
  refine wl_pure (l' := [(2, .int .i64 0)]) S tys tys_ok 1 (by kernel_rfl) ?_
  clear S; intro a S
  refine wpList_nil ?_
  refine then_n ?_
  refine wp_ret ?_
  obtain rfl := Option.some.inj h
  exact b_ret1 S rfl rfl ⟨_, rfl, (RepV.mkInt (by decide)), W.below⟩
theorem cb10 : callB Try.prog 10 = true := by kernel_rfl
def p68_nil (n : Nat) (x1 : Int) : Option ((Sl ((Sl (Int)) × Int × Int))) :=
 if (decide (x1 < 0)) then (.none) else (capO (⟨[], some 0⟩ : Sl ((Sl (Int)) × Int × Int))).bind fun x_2 => (ckI .i64 (x_2 - (lenI (⟨[], some 0⟩ : Sl ((Sl (Int)) × Int × Int))))).bind fun x_4 => (ckI .i64 (x1 - x_4)).bind fun x_5 => (if (decide (x_5 > 0)) then ((capO (⟨[], some 0⟩ : Sl ((Sl (Int)) × Int × Int))).bind fun x_27 => (cutI ([] : List ((Sl (Int)) × Int × Int)) x_27).bind fun l_29 => (appZ l_29 x_5 (⟨[], some 0⟩, 0, 0)).bind fun l_33 => (cutI l_33 (lenI (⟨[], some 0⟩ : Sl ((Sl (Int)) × Int × Int)))).bind fun l_39 => some l_39) else some ([])).bind fun (j_23 : (List ((Sl (Int)) × Int × Int))) => some (⟨j_23, .none⟩ : Sl ((Sl (Int)) × Int × Int))
set_option maxHeartbeats 4000000 in
set_option maxRecDepth 100000 in
/-- slices.Grow[plugboard/events.Tree,plugboard/events.Node] -/
theorem c68_nil (K : Nat → Prop) (n : Nat) (w : World) (x1 : Int) (G1 : InR .i64 x1) {r : (Sl ((Sl (Int)) × Int × Int))} (h : p68_nil n x1 = some r) :
  Calls Try.prog 68 #[.slice .none 0 0, .int .i64 x1] w (fun e_ w_ => ∃ v0_ : Value, e_ = .returned v0_ ∧ Ow gt0 33 w_ w.heap.size (Kx K w.heap.size [v0_.ownBlock]) v0_ r.xs r.cap ∧ Below w.heap.size w w_) := by
 refine enter (args := [.slice .none 0 0, .int .i64 x1]) Try.func68 rfl 27 rfl rfl fun a S => ?_
 have W := Wd.start w
 unfold p68_nil at h
 replace S : St 27 a [(0, .slice .none 0 0), (1, .int .i64 x1)] := S
 refine wp_seq ?_
 refine wp_region_lit ?_
 refine wl_pure (l' := [(4, .slice .none 0 0), (0, .slice .none 0 0), (1, .int .i64 x1)]) S tys tys_ok 1 (by kernel_rfl) ?_
 clear S; intro a S
 refine wpList_nil ?_
 refine then_n ?_
 replace S := S.sub (l' := [(0, .slice .none 0 0), (1, .int .i64 x1)]) (by exact ⟨rfl, rfl, trivial⟩)
 refine wp_seq ?_
 refine wp_seq ?_
 refine wp_region_lit ?_
 refine wl_pure (l' := [(6, .bool (decide (x1 < 0))), (5, .int .i64 x1), (0, .slice .none 0 0), (1, .int .i64 x1)]) S tys tys_ok 2 (by kernel_rfl) ?_
 clear S; intro a S
 refine wpList_nil ?_
 refine then_n ?_
 replace S := S.sub (l' := [(6, .bool (decide (x1 < 0))), (0, .slice .none 0 0), (1, .int .i64 x1)]) (by exact ⟨rfl, rfl, rfl, trivial⟩)
 refine wp_cond_split (S.eval (show ev _ _ = some (.bool (decide (x1 < 0))) from rfl)) ?_ ?_
 ·intro hc
  rw [if_pos hc] at h
  cases h
 ·intro hc
  rw [if_neg (Bool.eq_false_iff.1 hc)] at h
  refine wp_skip ?_
  refine then_n ?_
  replace S := S.sub (l' := [(0, .slice .none 0 0), (1, .int .i64 x1)]) (by exact ⟨rfl, rfl, trivial⟩)
  refine wp_seq ?_
  refine wp_seq ?_
  refine wp_region_lit ?_
  refine wl_pure (l' := [(9, .slice .none 0 0), (8, .int .i64 x1), (0, .slice .none 0 0), (1, .int .i64 x1)]) S tys tys_ok 2 (by kernel_rfl) ?_
  clear S; intro a S
  obtain ⟨x_2, ex_2, h⟩ := bindS h
  refine w_go S rfl (op_cap (K := _) S rfl ty23 rfl rfl rfl (RepV.nil : RepV (.sl gt0) w (fun _ => True) _ _) ex_2 ?_)
  clear S; intro a G_1 S
  refine wl_pure (l' := [(11, .slice .none 0 0), (10, .int .i64 x_2), (9, .slice .none 0 0), (8, .int .i64 x1), (0, .slice .none 0 0), (1, .int .i64 x1)]) S tys tys_ok 1 (by kernel_rfl) ?_
  clear S; intro a S
  refine w_go S rfl (op_len (K := _) S rfl ty23 rfl rfl rfl (RepV.nil : RepV (.sl gt0) w (fun _ => True) _ _) ?_)
  clear S; intro a G_3 S
  obtain ⟨x_4, ex_4, h⟩ := bindS h
  refine w_go S rfl (op_arith S .i64 (x_2 - (lenI (⟨[], some 0⟩ : Sl ((Sl (Int)) × Int × Int)))) rfl (.inr (.inl rfl)) rfl rfl rfl rfl ex_4 ?_)
  clear S; intro a S
  obtain ⟨x_5, ex_5, h⟩ := bindS h
  refine w_go S rfl (op_arith S .i64 (x1 - x_4) rfl (.inr (.inl rfl)) rfl rfl rfl rfl ex_5 ?_)
  clear S; intro a S
  refine wl_pureK (l' := [(1, .int .i64 x_5), (0, .slice .none 0 0), (1, .int .i64 x1)]) S tys tys_ok 1 [1, 0] (by kernel_rfl) ?_
  clear S; intro a S
  refine wpList_nil ?_
  refine then_n ?_
  refine wp_seq ?_
  refine wp_region_lit ?_
  refine wl_pure (l' := [(16, .bool (decide (x_5 > 0))), (15, .int .i64 x_5), (1, .int .i64 x_5), (0, .slice .none 0 0), (1, .int .i64 x1)]) S tys tys_ok 2 (by kernel_rfl) ?_
  clear S; intro a S
  refine wpList_nil ?_
  refine then_n ?_
  replace S := S.sub (l' := [(16, .bool (decide (x_5 > 0))), (1, .int .i64 x_5), (0, .slice .none 0 0)]) (by exact ⟨rfl, rfl, rfl, trivial⟩)
  obtain ⟨j_23, ej_23, h⟩ := bindS h
  refine wp_cut_ (fun a_ w_ => ∃ (v_24 : Value), St 27 a_ [(0, v_24)] ∧ Wd w w_ [v_24.ownBlock] ∧ Ow gt0 33 w_ w.heap.size (Kx K w.heap.size [v_24.ownBlock]) v_24 j_23 .none) ?_ ?_
  ·refine wp_cond_split (S.eval (show ev _ _ = some (.bool (decide (x_5 > 0))) from rfl)) ?_ ?_
   ·intro hc
    rw [if_pos hc] at ej_23
    refine wp_region_lit ?_
    refine wl_pure (l' := [(18, .slice .none 0 0), (17, .slice .none 0 0), (16, .bool (decide (x_5 > 0))), (1, .int .i64 x_5), (0, .slice .none 0 0)]) S tys tys_ok 2 (by kernel_rfl) ?_
    clear S; intro a S
    obtain ⟨x_27, ex_27, ej_23⟩ := bindS ej_23
    refine w_go S rfl (op_cap (K := _) S rfl ty23 rfl rfl rfl (RepV.nil : RepV (.sl gt0) w (fun _ => True) _ _) ex_27 ?_)
    clear S; intro a G_26 S
    replace W := W.more
    have O_28 : Ow gt0 33 w w.heap.size (Kx K w.heap.size [.none]) (.slice .none 0 0) ([] : List ((Sl (Int)) × Int × Int)) (some 0) := Ow.nil
    obtain ⟨l_29, el_29, ej_23⟩ := bindS ej_23
    refine w_go S rfl (op_cut_own S (E := 33) rfl ty23 un23 rfl rfl rfl O_28 (.inr ⟨_, _, rfl, rfl⟩) el_29 ?_)
    clear S; intro a v_30 hob_31 O_32 S
    replace W : Wd w w [v_30.ownBlock] := by rw [hob_31]; exact W
    replace O_32 : Ow gt0 33 w w.heap.size (Kx K w.heap.size [v_30.ownBlock]) v_30 l_29 (some 0) := by rw [hob_31]; exact O_32
    refine wl_pureK (l' := [(21, .int .i64 x_5), (20, v_30), (0, .slice .none 0 0)]) S tys tys_ok 1 [21, 20, 0] (by kernel_rfl) ?_
    clear S; intro a S
    obtain ⟨l_33, el_33, ej_23⟩ := bindS ej_23
    refine w_go S rfl (op_append_int (e := gt0) S W (E := 33) (z0 := (⟨[], some 0⟩, 0, 0)) 0 _ rfl ty23 ty3 un23 by23 z33 (fun w K => ⟨[.slice .none 0 0], [.int .u8 0, .int .u8 0], rfl, ⟨.none, 0, 0, rfl, rfl, Nat.le_refl _, by decide, fun k h => Option.some.inj h, .inl rfl⟩, ⟨[.int .u8 0], [.int .u8 0], rfl, ⟨rfl, by decide⟩, ⟨rfl, by decide⟩⟩⟩) rfl rfl rfl rfl O_32 rfl el_33 ?_)
    clear S; intro a w_35 v_34 A_36 O_37 S
    replace W : Wd w w_35 [v_34.ownBlock] := W.apd A_36 (i := 0) rfl
    replace O_37 : Ow gt0 33 w_35 w.heap.size (Kx K w.heap.size [v_34.ownBlock]) v_34 l_33 (capA (some 0) l_33.length) := O_37
    refine wl_pure (l' := [(23, .slice .none 0 0), (22, v_34), (21, .int .i64 x_5), (20, v_30), (0, .slice .none 0 0)]) S tys tys_ok 1 (by kernel_rfl) ?_
    clear S; intro a S
    refine w_go S rfl (op_len (K := _) S rfl ty23 rfl rfl rfl (RepV.nil : RepV (.sl gt0) w_35 (fun _ => True) _ _) ?_)
    clear S; intro a G_38 S
    obtain ⟨l_39, el_39, ej_23⟩ := bindS ej_23
    refine w_go S rfl (op_cut_own S (E := 33) rfl ty23 un23 rfl rfl rfl O_37 (.inr ⟨_, _, rfl, rfl⟩) el_39 ?_)
    clear S; intro a v_40 hob_41 O_42 S
    replace W : Wd w w_35 [v_40.ownBlock] := by rw [hob_41]; exact W
    replace O_42 : Ow gt0 33 w_35 w.heap.size (Kx K w.heap.size [v_40.ownBlock]) v_40 l_39 (capA (some 0) l_33.length) := by rw [hob_41]; exact O_42
    refine wl_pureK (l' := [(0, v_40), (0, .slice .none 0 0)]) S tys tys_ok 1 [0] (by kernel_rfl) ?_
    clear S; intro a S
    refine wpList_nil ?_
    refine then_n ?_
    obtain rfl := Option.some.inj ej_23
    exact ⟨v_40, S.sub (by exact ⟨rfl, trivial⟩), W, O_42.forget⟩
   ·intro hc
    rw [if_neg (Bool.eq_false_iff.1 hc)] at ej_23
    refine wp_skip ?_
    refine then_n ?_
    obtain rfl := Option.some.inj ej_23
    replace W := W.more
    have O_43 : Ow gt0 33 w w.heap.size (Kx K w.heap.size [.none]) (.slice .none 0 0) ([] : List ((Sl (Int)) × Int × Int)) (some 0) := Ow.nil
    exact ⟨(.slice .none 0 0), S.sub (by exact ⟨rfl, trivial⟩), W, O_43.forget⟩
  clear S W; rintro a w_44 ⟨v_24, S, W, O_25⟩
  refine then_n ?_
  refine wp_seq ?_
  refine wp_region_lit ?_
  refine wl_pure (l' := [(4, v_24), (26, v_24), (0, v_24)]) S tys tys_ok 2 (by kernel_rfl) ?_
  clear S; intro a S
  refine wpList_nil ?_
  refine then_n ?_
  replace S := S.sub (l' := [(4, v_24)]) (by exact ⟨rfl, trivial⟩)
  refine wp_ret ?_
  obtain rfl := Option.some.inj h
  exact b_ret1 S rfl rfl ⟨_, rfl, (O_25.lessO 0 rfl), W.below⟩
def p64_l1 (n : Nat) (x0 : Sl (Sl ((Sl (Int)) × Int × Int))) : Nat → (Int) → (Int) → Option ((Int))
 | 0, _, _ => .none
 | m + 1, c_2, c_4 => if (decide (c_2 < (lenI x0))) then ((idx x0.xs c_2).bind fun y_15 => (ckI .i64 (c_4 + (lenI y_15))).bind fun x_22 => if (decide (x_22 < 0)) then (.none) else (ckI .i64 (c_2 + 1)).bind fun x_23 => p64_l1 n x0 m x_23 x_22) else some c_4
def p64_l2 (n : Nat) (x0 : Sl (Sl ((Sl (Int)) × Int × Int))) : Nat → (Int) → (List ((Sl (Int)) × Int × Int)) → Option ((List ((Sl (Int)) × Int × Int)))
 | 0, _, _ => .none
 | m + 1, c_31, c_33 => if (decide (c_31 < (lenI x0))) then ((idx x0.xs c_31).bind fun y_47 => (appI c_33 y_47.xs).bind fun l_53 => (ckI .i64 (c_31 + 1)).bind fun x_58 => p64_l2 n x0 m x_58 l_53) else some c_33
def p64 (n : Nat) (x0 : Sl (Sl ((Sl (Int)) × Int × Int))) : Option ((Sl ((Sl (Int)) × Int × Int))) :=
 (p64_l1 n x0 n 0 0).bind fun (y_10 : (Int)) =>
 (p68_nil n y_10).bind fun t_25 =>
 (p64_l2 n x0 n 0 t_25.xs).bind fun (y_41 : (List ((Sl (Int)) × Int × Int))) =>
 some (⟨y_41, .none⟩ : Sl ((Sl (Int)) × Int × Int))
set_option maxHeartbeats 4000000 in
set_option maxRecDepth 100000 in
/-- slices.Concat[plugboard/events.Tree,plugboard/events.Node] -/
theorem c64 (K : Nat → Prop) (n : Nat) (w : World) (x0 : Sl (Sl ((Sl (Int)) × Int × Int))) (v0 : Value) (R0 : RepV (.sl (.sl gt0)) w K v0 x0) {r : (Sl ((Sl (Int)) × Int × Int))} (h : p64 n x0 = some r) :
  Calls Try.prog 64 #[v0] w (fun e_ w_ => ∃ v0_ : Value, e_ = .returned v0_ ∧ Ow gt0 33 w_ w.heap.size (Kx K w.heap.size [v0_.ownBlock]) v0_ r.xs r.cap ∧ Below w.heap.size w w_) := by
 refine enter (args := [v0]) Try.func64 rfl 36 rfl rfl fun a S => ?_
 have W := Wd.start w
 replace R0 := R0.arg
 unfold p64 at h
 replace S : St 36 a [(0, v0)] := S
 refine wp_seq ?_
 refine wp_region_lit ?_
 refine wl_pure (l' := [(2, .slice .none 0 0), (0, v0)]) S tys tys_ok 1 (by kernel_rfl) ?_
 clear S; intro a S
 refine wpList_nil ?_
 refine then_n ?_
 replace S := S.sub (l' := [(0, v0)]) (by exact ⟨rfl, trivial⟩)
 refine wp_seq ?_
 refine wp_region_lit ?_
 refine wl_pure (l' := [(3, .int .i64 0), (0, v0)]) S tys tys_ok 1 (by kernel_rfl) ?_
 clear S; intro a S
 refine wpList_nil ?_
 refine then_n ?_
 refine wp_seq ?_
 refine wp_seq ?_
 refine wp_region_lit ?_
 refine wl_pure (l' := [(9, v0), (3, .int .i64 0), (0, v0)]) S tys tys_ok 1 (by kernel_rfl) ?_
 clear S; intro a S
 refine w_go S rfl (op_len (K := _) S rfl ty83 rfl rfl rfl R0 ?_)
 clear S; intro a G_1 S
 refine wl_pure (l' := [(11, .int .i64 0), (10, .int .i64 (lenI x0)), (9, v0), (3, .int .i64 0), (0, v0)]) S tys tys_ok 1 (by kernel_rfl) ?_
 clear S; intro a S
 refine wpList_nil ?_
 refine then_n ?_
 obtain ⟨y_10, ey_10, h⟩ := bindS h
 refine wp_cut_ (fun a_ w_ => St 36 a_ [(0, v0), (3, .int .i64 y_10)] ∧ Wd w w_ [] ∧ InR .i64 y_10 ∧ RepV (.sl (.sl gt0)) w_ (Kx K w.heap.size []) v0 x0) ?_ ?_
 ·refine wp_block ?_
  refine wp_loop_n (fun m_ a_ w_ => ∃ (c_2 : Int) (c_4 : Int) , St 36 a_ [(11, .int .i64 c_2), (10, .int .i64 (lenI x0)), (9, v0), (3, .int .i64 c_4), (0, v0)] ∧ Wd w w_ [] ∧ InR .i64 c_2 ∧ InR .i64 c_4 ∧ RepV (.sl (.sl gt0)) w_ (Kx K w.heap.size []) v0 x0 ∧ p64_l1 n x0 m_ c_2 c_4 = some y_10) n ?_ ?_
  ·skip
   exact ⟨0, 0, ⟨S.sub (by exact ⟨rfl, rfl, rfl, rfl, rfl, trivial⟩), W, (show InR .i64 0 by decide), (show InR .i64 0 by decide), R0, ey_10⟩⟩
  ·clear S W; rintro m_12 a w_14 ⟨c_2, c_4, S, W, G_3, G_5, R0, hl_13⟩
   cases m_12 with
   | zero => exact absurd hl_13 (by simp [p64_l1])
   | succ m_12 =>
    refine ⟨m_12, rfl, ?_⟩
    rw [p64_l1] at hl_13
    refine wp_seq ?_
    refine wp_region_lit ?_
    refine wl_pure (l' := [(12, .bool (decide (c_2 < (lenI x0)))), (11, .int .i64 c_2), (10, .int .i64 (lenI x0)), (9, v0), (3, .int .i64 c_4), (0, v0)]) S tys tys_ok 1 (by kernel_rfl) ?_
    clear S; intro a S
    refine wpList_nil ?_
    refine then_n ?_
    refine wp_seq ?_
    refine wp_cond_split (S.eval (show ev _ _ = some (.bool (decide (c_2 < (lenI x0)))) from rfl)) ?_ ?_
    ·intro hc
     rw [if_pos hc] at hl_13
     refine wp_skip ?_
     refine then_n ?_
     replace S := S.sub (l' := [(11, .int .i64 c_2), (10, .int .i64 (lenI x0)), (9, v0), (3, .int .i64 c_4), (0, v0)]) (by exact ⟨rfl, rfl, rfl, rfl, rfl, trivial⟩)
     refine wp_seq ?_
     refine wp_block ?_
     refine wp_seq ?_
     refine wp_region_lit ?_
     obtain ⟨y_15, ey_15, hl_13⟩ := bindS hl_13
     refine w_go S rfl (op_indexAddr S rfl ty83 rfl rfl rfl R0 rfl ey_15 ?_)
     clear S; intro a p_16 R_17 H_18 S
     refine w_go S rfl (op_load (t := (.sl gt0)) (x := y_15) S rfl ty23 rfl rfl rfl R_17 ?_)
     clear S; intro a v_19 R_20 S
     refine wl_pure (l' := [(5, v_19), (14, v_19), (13, .pointer (some p_16)), (11, .int .i64 c_2), (10, .int .i64 (lenI x0)), (9, v0), (3, .int .i64 c_4), (0, v0)]) S tys tys_ok 1 (by kernel_rfl) ?_
     clear S; intro a S
     refine wpList_nil ?_
     refine then_n ?_
     replace S := S.sub (l' := [(5, v_19), (11, .int .i64 c_2), (10, .int .i64 (lenI x0)), (9, v0), (3, .int .i64 c_4), (0, v0)]) (by exact ⟨rfl, rfl, rfl, rfl, rfl, rfl, trivial⟩)
     refine wp_seq ?_
     refine wp_region_lit ?_
     refine wl_pure (l' := [(16, v_19), (15, .int .i64 c_4), (5, v_19), (11, .int .i64 c_2), (10, .int .i64 (lenI x0)), (9, v0), (3, .int .i64 c_4), (0, v0)]) S tys tys_ok 2 (by kernel_rfl) ?_
     clear S; intro a S
     refine w_go S rfl (op_len (K := _) S rfl ty23 rfl rfl rfl R_20 ?_)
     clear S; intro a G_21 S
     obtain ⟨x_22, ex_22, hl_13⟩ := bindS hl_13
     refine w_go S rfl (op_arith S .i64 (c_4 + (lenI y_15)) rfl (.inl rfl) rfl rfl rfl rfl ex_22 ?_)
     clear S; intro a S
     refine wl_pureK (l' := [(3, .int .i64 x_22), (11, .int .i64 c_2), (10, .int .i64 (lenI x0)), (9, v0), (3, .int .i64 c_4), (0, v0)]) S tys tys_ok 1 [3, 11, 10, 9, 0] (by kernel_rfl) ?_
     clear S; intro a S
     refine wpList_nil ?_
     refine then_n ?_
     refine wp_seq ?_
     refine wp_region_lit ?_
     refine wl_pure (l' := [(20, .bool (decide (x_22 < 0))), (19, .int .i64 x_22), (3, .int .i64 x_22), (11, .int .i64 c_2), (10, .int .i64 (lenI x0)), (9, v0), (3, .int .i64 c_4), (0, v0)]) S tys tys_ok 2 (by kernel_rfl) ?_
     clear S; intro a S
     refine wpList_nil ?_
     refine then_n ?_
     replace S := S.sub (l' := [(20, .bool (decide (x_22 < 0))), (3, .int .i64 x_22), (11, .int .i64 c_2), (10, .int .i64 (lenI x0)), (9, v0), (0, v0)]) (by exact ⟨rfl, rfl, rfl, rfl, rfl, rfl, trivial⟩)
     refine wp_cond_split (S.eval (show ev _ _ = some (.bool (decide (x_22 < 0))) from rfl)) ?_ ?_
     ·intro hc
      rw [if_pos hc] at hl_13
      cases hl_13
     ·intro hc
      rw [if_neg (Bool.eq_false_iff.1 hc)] at hl_13
      refine wp_skip ?_
      refine blk_n ?_
      refine then_n ?_
      replace S := S.sub (l' := [(3, .int .i64 x_22), (11, .int .i64 c_2), (10, .int .i64 (lenI x0)), (9, v0), (0, v0)]) (by exact ⟨rfl, rfl, rfl, rfl, rfl, trivial⟩)
      refine wp_region_lit ?_
      obtain ⟨x_23, ex_23, hl_13⟩ := bindS hl_13
      refine w_go S rfl (op_arith S .i64 (c_2 + 1) rfl (.inl rfl) rfl rfl rfl rfl ex_23 ?_)
      clear S; intro a S
      refine wl_pure (l' := [(11, .int .i64 x_23), (22, .int .i64 x_23), (3, .int .i64 x_22), (11, .int .i64 c_2), (10, .int .i64 (lenI x0)), (9, v0), (0, v0)]) S tys tys_ok 1 (by kernel_rfl) ?_
      clear S; intro a S
      refine wpList_nil ?_
      refine then_n ?_
      exact ⟨x_23, x_22, ⟨S.sub (by exact ⟨rfl, rfl, rfl, rfl, rfl, trivial⟩), W, (ckI_some ex_23).2.1, (ckI_some ex_22).2.1, R0, hl_13⟩⟩
    ·intro hc
     rw [if_neg (Bool.eq_false_iff.1 hc)] at hl_13
     refine wp_exit ?_
     refine then_x ?_
     refine then_x ?_
     refine blk_hit ?_
     refine then_n ?_
     obtain rfl := Option.some.inj hl_13
     exact ⟨S.sub (by exact ⟨rfl, rfl, trivial⟩), W, G_5, R0⟩
 clear S W; rintro a w_24 ⟨S, W, G_11, R0⟩
 refine then_n ?_
 refine wp_seq ?_
 refine wp_region_lit ?_
 refine wl_pure (l' := [(23, .int .i64 y_10), (0, v0), (3, .int .i64 y_10)]) S tys tys_ok 1 (by kernel_rfl) ?_
 clear S; intro a S
 obtain ⟨t_25, et_25, h⟩ := bindS h
 refine w_go S rfl (op_call (vs := [.slice .none 0 0, .int .i64 y_10]) S rfl cb68 rfl rfl rfl (c68_nil (Kx K w.heap.size []) n w_24 y_10 G_11 et_25) ?_)
 rintro _ w_29 ⟨v_26, rfl, R_27, hb_28⟩; refine ⟨_, rfl, ?_⟩
 have NO_ := newO_of R_27 (Nat.le_refl _) hb_28
 replace R_27 := Ow.backO R_27 W
 clear S; intro a S
 replace R0 := R0.newO NO_
 replace W := W.newO NO_
 clear NO_
 refine wl_pureK (l' := [(6, v_26), (0, v0)]) S tys tys_ok 1 [6, 0] (by kernel_rfl) ?_
 clear S; intro a S
 refine wpList_nil ?_
 refine then_n ?_
 refine wp_seq ?_
 refine wp_seq ?_
 refine wp_region_lit ?_
 refine wl_pure (l' := [(25, v0), (6, v_26), (0, v0)]) S tys tys_ok 1 (by kernel_rfl) ?_
 clear S; intro a S
 refine w_go S rfl (op_len (K := _) S rfl ty83 rfl rfl rfl R0 ?_)
 clear S; intro a G_30 S
 refine wl_pure (l' := [(27, .int .i64 0), (26, .int .i64 (lenI x0)), (25, v0), (6, v_26), (0, v0)]) S tys tys_ok 1 (by kernel_rfl) ?_
 clear S; intro a S
 refine wpList_nil ?_
 refine then_n ?_
 replace S := S.sub (l' := [(27, .int .i64 0), (26, .int .i64 (lenI x0)), (25, v0), (6, v_26)]) (by exact ⟨rfl, rfl, rfl, rfl, trivial⟩)
 obtain ⟨y_41, ey_41, h⟩ := bindS h
 refine wp_cut_ (fun a_ w_ => ∃ (v_42 : Value), St 36 a_ [(6, v_42)] ∧ Wd w w_ [v_42.ownBlock] ∧ Ow gt0 33 w_ w.heap.size (Kx K w.heap.size [v_42.ownBlock]) v_42 y_41 .none) ?_ ?_
 ·refine wp_block ?_
  refine wp_loop_n (fun m_ a_ w_ => ∃ (c_31 : Int) (c_33 : List ((Sl (Int)) × Int × Int)) , ∃ (v_34 : Value), St 36 a_ [(27, .int .i64 c_31), (26, .int .i64 (lenI x0)), (25, v0), (6, v_34)] ∧ Wd w w_ [v_34.ownBlock] ∧ InR .i64 c_31 ∧ RepV (.sl (.sl gt0)) w_ (Kx K w.heap.size [v_34.ownBlock]) v0 x0 ∧ Ow gt0 33 w_ w.heap.size (Kx K w.heap.size [v_34.ownBlock]) v_34 c_33 .none ∧ p64_l2 n x0 m_ c_31 c_33 = some y_41) n ?_ ?_
  ·skip
   exact ⟨0, t_25.xs, ⟨v_26, S.sub (by exact ⟨rfl, rfl, rfl, rfl, trivial⟩), W, (show InR .i64 0 by decide), R0, R_27.forget, ey_41⟩⟩
  ·clear S W; rintro m_44 a w_46 ⟨c_31, c_33, v_34, S, W, G_32, R0, O_35, hl_45⟩
   cases m_44 with
   | zero => exact absurd hl_45 (by simp [p64_l2])
   | succ m_44 =>
    refine ⟨m_44, rfl, ?_⟩
    rw [p64_l2] at hl_45
    refine wp_seq ?_
    refine wp_region_lit ?_
    refine wl_pure (l' := [(28, .bool (decide (c_31 < (lenI x0)))), (27, .int .i64 c_31), (26, .int .i64 (lenI x0)), (25, v0), (6, v_34)]) S tys tys_ok 1 (by kernel_rfl) ?_
    clear S; intro a S
    refine wpList_nil ?_
    refine then_n ?_
    refine wp_seq ?_
    refine wp_cond_split (S.eval (show ev _ _ = some (.bool (decide (c_31 < (lenI x0)))) from rfl)) ?_ ?_
    ·intro hc
     rw [if_pos hc] at hl_45
     refine wp_skip ?_
     refine then_n ?_
     replace S := S.sub (l' := [(27, .int .i64 c_31), (26, .int .i64 (lenI x0)), (25, v0), (6, v_34)]) (by exact ⟨rfl, rfl, rfl, rfl, trivial⟩)
     refine wp_seq ?_
     refine wp_block ?_
     refine wp_seq ?_
     refine wp_region_lit ?_
     obtain ⟨y_47, ey_47, hl_45⟩ := bindS hl_45
     refine w_go S rfl (op_indexAddr S rfl ty83 rfl rfl rfl R0 rfl ey_47 ?_)
     clear S; intro a p_48 R_49 H_50 S
     refine w_go S rfl (op_load (t := (.sl gt0)) (x := y_47) S rfl ty23 rfl rfl rfl R_49 ?_)
     clear S; intro a v_51 R_52 S
     refine wl_pure (l' := [(8, v_51), (30, v_51), (29, .pointer (some p_48)), (27, .int .i64 c_31), (26, .int .i64 (lenI x0)), (25, v0), (6, v_34)]) S tys tys_ok 1 (by kernel_rfl) ?_
     clear S; intro a S
     refine wpList_nil ?_
     refine then_n ?_
     replace S := S.sub (l' := [(8, v_51), (27, .int .i64 c_31), (26, .int .i64 (lenI x0)), (25, v0), (6, v_34)]) (by exact ⟨rfl, rfl, rfl, rfl, rfl, trivial⟩)
     refine wp_region_lit ?_
     refine wl_pure (l' := [(32, v_51), (31, v_34), (8, v_51), (27, .int .i64 c_31), (26, .int .i64 (lenI x0)), (25, v0), (6, v_34)]) S tys tys_ok 2 (by kernel_rfl) ?_
     clear S; intro a S
     obtain ⟨l_53, el_53, hl_45⟩ := bindS hl_45
     refine w_go S rfl (op_append S W (E := 33) 0 rfl ty23 un23 by23 rfl rfl rfl rfl O_35 rfl R_52 el_53 ?_)
     clear S; intro a w_55 v_54 A_56 O_57 S
     replace R_52 : RepV (.sl gt0) w_55 (Kx K w.heap.size [v_54.ownBlock]) v_51 y_47 := R_52.apd A_56 (i := 0) rfl
     replace R0 : RepV (.sl (.sl gt0)) w_55 (Kx K w.heap.size [v_54.ownBlock]) v0 x0 := R0.apd A_56 (i := 0) rfl
     replace W : Wd w w_55 [v_54.ownBlock] := W.apd A_56 (i := 0) rfl
     replace O_57 : Ow gt0 33 w_55 w.heap.size (Kx K w.heap.size [v_54.ownBlock]) v_54 l_53 (capA .none l_53.length) := O_57
     refine wl_pureK (l' := [(6, v_54), (27, .int .i64 c_31), (26, .int .i64 (lenI x0)), (25, v0), (6, v_34)]) S tys tys_ok 1 [6, 27, 26, 25] (by kernel_rfl) ?_
     clear S; intro a S
     refine wpList_nil ?_
     refine blk_n ?_
     refine then_n ?_
     refine wp_region_lit ?_
     obtain ⟨x_58, ex_58, hl_45⟩ := bindS hl_45
     refine w_go S rfl (op_arith S .i64 (c_31 + 1) rfl (.inl rfl) rfl rfl rfl rfl ex_58 ?_)
     clear S; intro a S
     refine wl_pure (l' := [(27, .int .i64 x_58), (34, .int .i64 x_58), (6, v_54), (27, .int .i64 c_31), (26, .int .i64 (lenI x0)), (25, v0), (6, v_34)]) S tys tys_ok 1 (by kernel_rfl) ?_
     clear S; intro a S
     refine wpList_nil ?_
     refine then_n ?_
     exact ⟨x_58, l_53, ⟨v_54, S.sub (by exact ⟨rfl, rfl, rfl, rfl, trivial⟩), W, (ckI_some ex_58).2.1, R0, O_57.forget, hl_45⟩⟩
    ·intro hc
     rw [if_neg (Bool.eq_false_iff.1 hc)] at hl_45
     refine wp_exit ?_
     refine then_x ?_
     refine then_x ?_
     refine blk_hit ?_
     refine then_n ?_
     obtain rfl := Option.some.inj hl_45
     exact ⟨v_34, S.sub (by exact ⟨rfl, trivial⟩), W, O_35⟩
 clear S W; rintro a w_59 ⟨v_42, S, W, O_43⟩
 refine then_n ?_
 refine wp_seq ?_
 refine wp_region_lit ?_
 refine wl_pure (l' := [(2, v_42), (35, v_42), (6, v_42)]) S tys tys_ok 2 (by kernel_rfl) ?_
 clear S; intro a S
 refine wpList_nil ?_
 refine then_n ?_
 replace S := S.sub (l' := [(2, v_42)]) (by exact ⟨rfl, trivial⟩)
 refine wp_ret ?_
 obtain rfl := Option.some.inj h
 exact b_ret1 S rfl rfl ⟨_, rfl, (O_43.lessO 0 rfl), W.below⟩
theorem cb64 : callB Try.prog 64 = true := by kernel_rfl
def p54_l1 (n : Nat) (x0 : Sl ((Sl (Int)) × Int × Int)) (x1 : Sl (Int)) : Nat → (Int) → Option ((Int))
 | 0, _ => .none
 | m + 1, c_15 => (if (decide (c_15 < (lenI x0))) = true then (idx x0.xs c_15).bind fun y_26 => (p35 n y_26.1 x1).bind fun t_32 => some (decide (t_32 < 0)) else some false).bind fun q_25 => if q_25 then ((ckI .i64 (c_15 + 1)).bind fun x_38 => p54_l1 n x0 x1 m x_38) else some c_15
def p54 (n : Nat) (x0 : Sl ((Sl (Int)) × Int × Int)) (x1 : Sl (Int)) : Option ((Sl ((Sl (Int)) × Int × Int)) × (Int)) :=
 (p38 n x0 x1).bind fun t_1 =>
 if (decide (t_1 ≥ 0)) then (some ((⟨([] : List ((Sl (Int)) × Int × Int)), some 0⟩ : Sl ((Sl (Int)) × Int × Int)), 8)) else (p34 n x0 x1).bind fun t_7 => if (!t_7) then (some ((⟨([] : List ((Sl (Int)) × Int × Int)), some 0⟩ : Sl ((Sl (Int)) × Int × Int)), 7)) else if (decide ((lenI x0) ≥ 127)) then (some ((⟨([] : List ((Sl (Int)) × Int × Int)), some 0⟩ : Sl ((Sl (Int)) × Int × Int)), 9)) else (p54_l1 n x0 x1 n 0).bind fun (y_19 : (Int)) => (slI x0 0 y_19).bind fun s_42 => (slI x0 y_19 (lenI x0)).bind fun s_51 => (p64 n (⟨[s_42, (⟨[(x1, 1, 0)], some 1⟩ : Sl ((Sl (Int)) × Int × Int)), s_51], some 3⟩ : Sl (Sl ((Sl (Int)) × Int × Int)))).bind fun t_98 => some ((⟨t_98.xs, t_98.cap⟩ : Sl ((Sl (Int)) × Int × Int)), 0)
set_option maxHeartbeats 4000000 in
set_option maxRecDepth 100000 in
/-- (plugboard/events.Tree).attach -/
theorem c54 (K : Nat → Prop) (n : Nat) (w : World) (x0 : Sl ((Sl (Int)) × Int × Int)) (v0 : Value) (R0 : RepV (.sl gt0) w K v0 x0) (x1 : Sl (Int)) (v1 : Value) (R1 : RepV (.sl (.int .u8)) w K v1 x1) {r : (Sl ((Sl (Int)) × Int × Int)) × (Int)} (h : p54 n x0 x1 = some r) :
  Calls Try.prog 54 #[v0, v1] w (fun e_ w_ => ∃ v0_ v1_ : Value, e_ = .returned (.tuple #[v0_, v1_]) ∧ Ow gt0 33 w_ w.heap.size (Kx K w.heap.size [v0_.ownBlock]) v0_ r.1.xs r.1.cap ∧ RepV (.int .i64) w_ (Kx K w.heap.size [v0_.ownBlock]) v1_ r.2 ∧ Below w.heap.size w w_) := by
 refine enter (args := [v0, v1]) Try.func54 rfl 48 rfl rfl fun a S => ?_
 have W := Wd.start w
 replace R0 := R0.arg
 replace R1 := R1.arg
 unfold p54 at h
 replace S : St 48 a [(0, v0), (1, v1)] := S
 refine wp_seq ?_
 refine wp_region_lit ?_
 refine wl_pure (l' := [(5, .int .i64 0), (4, .slice .none 0 0), (0, v0), (1, v1)]) S tys tys_ok 2 (by kernel_rfl) ?_
 clear S; intro a S
 refine wpList_nil ?_
 refine then_n ?_
 replace S := S.sub (l' := [(0, v0), (1, v1)]) (by exact ⟨rfl, rfl, trivial⟩)
 refine wp_seq ?_
 refine wp_block ?_
 refine wp_seq ?_
 refine wp_region_lit ?_
 refine wl_pure (l' := [(9, v1), (8, v0), (0, v0), (1, v1)]) S tys tys_ok 2 (by kernel_rfl) ?_
 clear S; intro a S
 obtain ⟨t_1, et_1, h⟩ := bindS h
 refine w_go S rfl (op_call (vs := [v0, v1]) S rfl cb38 rfl rfl rfl (c38 (Kx K w.heap.size []) n w x0 _ R0 x1 _ R1 et_1) ?_)
 rintro _ w_5 ⟨v_2, rfl, R_3, hb_4⟩; refine ⟨_, rfl, ?_⟩
 replace R_3 := RepV.back R_3 W
 clear S; intro a S
 replace R0 := R0.step hb_4
 replace R1 := R1.step hb_4
 replace W := W.step hb_4
 obtain ⟨rfl, GR_3⟩ := RepV.int R_3
 refine wl_pureK (l' := [(7, .bool (decide (t_1 ≥ 0))), (0, v0), (1, v1)]) S tys tys_ok 2 [7, 0, 1] (by kernel_rfl) ?_
 clear S; intro a S
 refine wpList_nil ?_
 refine then_n ?_
 refine wp_cond_split (S.eval (show ev _ _ = some (.bool (decide (t_1 ≥ 0))) from rfl)) ?_ ?_
 ·intro hc
  rw [if_pos hc] at h
  refine wp_seq ?_
  refine wp_region_lit ?_
  refine wl_pureK (l' := [(5, .int .i64 8), (4, .slice .none 0 0)]) S tys tys_ok 2 [5, 4] (by kernel_rfl) ?_
  clear S; intro a S
  refine wpList_nil ?_
  refine then_n ?_
  refine wp_ret ?_
  refine blk_r ?_
  refine then_r ?_
  replace W := W.more
  have O_6 : Ow gt0 33 w_5 w.heap.size (Kx K w.heap.size [.none]) (.slice .none 0 0) ([] : List ((Sl (Int)) × Int × Int)) (some 0) := Ow.nil
  obtain rfl := Option.some.inj h
  exact b_ret2 S rfl rfl rfl ⟨_, _, rfl, (O_6.lessO 0 rfl), (RepV.mkInt (by decide)), W.below⟩
 ·intro hc
  rw [if_neg (Bool.eq_false_iff.1 hc)] at h
  refine wp_seq ?_
  refine wp_region_lit ?_
  refine wl_pure (l' := [(14, v1), (13, v0), (7, .bool (decide (t_1 ≥ 0))), (0, v0), (1, v1)]) S tys tys_ok 2 (by kernel_rfl) ?_
  clear S; intro a S
  obtain ⟨t_7, et_7, h⟩ := bindS h
  refine w_go S rfl (op_call (vs := [v0, v1]) S rfl cb34 rfl rfl rfl (c34 (Kx K w.heap.size []) n w_5 x0 _ R0 x1 _ R1 et_7) ?_)
  rintro _ w_11 ⟨v_8, rfl, R_9, hb_10⟩; refine ⟨_, rfl, ?_⟩
  replace R_9 := RepV.back R_9 W
  clear S; intro a S
  replace R0 := R0.step hb_10
  replace R1 := R1.step hb_10
  replace W := W.step hb_10
  obtain rfl := RepV.bool R_9
  refine wl_pureK (l' := [(12, .bool (!t_7)), (0, v0), (1, v1)]) S tys tys_ok 2 [12, 0, 1] (by kernel_rfl) ?_
  clear S; intro a S
  refine wpList_nil ?_
  refine then_n ?_
  refine wp_cond_split (S.eval (show ev _ _ = some (.bool (!t_7)) from rfl)) ?_ ?_
  ·intro hc
   rw [if_pos hc] at h
   refine wp_seq ?_
   refine wp_region_lit ?_
   refine wl_pureK (l' := [(5, .int .i64 7), (4, .slice .none 0 0)]) S tys tys_ok 2 [5, 4] (by kernel_rfl) ?_
   clear S; intro a S
   refine wpList_nil ?_
   refine then_n ?_
   refine wp_ret ?_
   refine blk_r ?_
   refine then_r ?_
   replace W := W.more
   have O_12 : Ow gt0 33 w_11 w.heap.size (Kx K w.heap.size [.none]) (.slice .none 0 0) ([] : List ((Sl (Int)) × Int × Int)) (some 0) := Ow.nil
   obtain rfl := Option.some.inj h
   exact b_ret2 S rfl rfl rfl ⟨_, _, rfl, (O_12.lessO 0 rfl), (RepV.mkInt (by decide)), W.below⟩
  ·intro hc
   rw [if_neg (Bool.eq_false_iff.1 hc)] at h
   refine wp_seq ?_
   refine wp_region_lit ?_
   refine wl_pure (l' := [(18, v0), (12, .bool (!t_7)), (0, v0), (1, v1)]) S tys tys_ok 1 (by kernel_rfl) ?_
   clear S; intro a S
   refine w_go S rfl (op_len (K := _) S rfl ty23 rfl rfl rfl R0 ?_)
   clear S; intro a G_13 S
   refine wl_pureK (l' := [(17, .bool (decide ((lenI x0) ≥ 127))), (0, v0), (1, v1)]) S tys tys_ok 2 [17, 0, 1] (by kernel_rfl) ?_
   clear S; intro a S
   refine wpList_nil ?_
   refine then_n ?_
   refine wp_cond_split (S.eval (show ev _ _ = some (.bool (decide ((lenI x0) ≥ 127))) from rfl)) ?_ ?_
   ·intro hc
    rw [if_pos hc] at h
    refine wp_seq ?_
    refine wp_region_lit ?_
    refine wl_pureK (l' := [(5, .int .i64 9), (4, .slice .none 0 0)]) S tys tys_ok 2 [5, 4] (by kernel_rfl) ?_
    clear S; intro a S
    refine wpList_nil ?_
    refine then_n ?_
    refine wp_ret ?_
    refine blk_r ?_
    refine then_r ?_
    replace W := W.more
    have O_14 : Ow gt0 33 w_11 w.heap.size (Kx K w.heap.size [.none]) (.slice .none 0 0) ([] : List ((Sl (Int)) × Int × Int)) (some 0) := Ow.nil
    obtain rfl := Option.some.inj h
    exact b_ret2 S rfl rfl rfl ⟨_, _, rfl, (O_14.lessO 0 rfl), (RepV.mkInt (by decide)), W.below⟩
   ·intro hc
    rw [if_neg (Bool.eq_false_iff.1 hc)] at h
    refine wp_skip ?_
    refine blk_n ?_
    refine then_n ?_
    replace S := S.sub (l' := [(0, v0), (1, v1)]) (by exact ⟨rfl, rfl, trivial⟩)
    refine wp_seq ?_
    refine wp_region_lit ?_
    refine wl_pure (l' := [(6, .int .i64 0), (0, v0), (1, v1)]) S tys tys_ok 1 (by kernel_rfl) ?_
    clear S; intro a S
    refine wpList_nil ?_
    refine then_n ?_
    refine wp_seq ?_
    obtain ⟨y_19, ey_19, h⟩ := bindS h
    refine wp_cut_ (fun a_ w_ => St 48 a_ [(0, v0), (1, v1), (6, .int .i64 y_19)] ∧ Wd w w_ [] ∧ InR .i64 y_19 ∧ RepV (.sl gt0) w_ (Kx K w.heap.size []) v0 x0 ∧ RepV (.sl (.int .u8)) w_ (Kx K w.heap.size []) v1 x1) ?_ ?_
    ·refine wp_block ?_
     refine wp_loop_n (fun m_ a_ w_ => ∃ (c_15 : Int) , St 48 a_ [(6, .int .i64 c_15), (0, v0), (1, v1)] ∧ Wd w w_ [] ∧ InR .i64 c_15 ∧ RepV (.sl gt0) w_ (Kx K w.heap.size []) v0 x0 ∧ RepV (.sl (.int .u8)) w_ (Kx K w.heap.size []) v1 x1 ∧ p54_l1 n x0 x1 m_ c_15 = some y_19) n ?_ ?_
     ·skip
      exact ⟨0, ⟨S.sub (by exact ⟨rfl, rfl, rfl, trivial⟩), W, (show InR .i64 0 by decide), R0, R1, ey_19⟩⟩
     ·clear S W; rintro m_21 a w_23 ⟨c_15, S, W, G_16, R0, R1, hl_22⟩
      cases m_21 with
      | zero => exact absurd hl_22 (by simp [p54_l1])
      | succ m_21 =>
       refine ⟨m_21, rfl, ?_⟩
       rw [p54_l1] at hl_22
       refine wp_seq ?_
       refine wp_seq ?_
       refine wp_region_lit ?_
       refine wl_pure (l' := [(22, v0), (21, .int .i64 c_15), (6, .int .i64 c_15), (0, v0), (1, v1)]) S tys tys_ok 2 (by kernel_rfl) ?_
       clear S; intro a S
       refine w_go S rfl (op_len (K := _) S rfl ty23 rfl rfl rfl R0 ?_)
       clear S; intro a G_24 S
       refine wl_pureK (l' := [(25, .bool (decide (c_15 < (lenI x0)))), (6, .int .i64 c_15), (0, v0), (1, v1)]) S tys tys_ok 2 [25, 6, 0, 1] (by kernel_rfl) ?_
       clear S; intro a S
       obtain ⟨q_25, eq_25, hl_22⟩ := bindS hl_22
       refine seg 9 (fun a_ w_ => St 48 a_ [(34, .bool q_25), (6, .int .i64 c_15), (0, v0), (1, v1)] ∧ Wd w w_ [] ∧ RepV (.sl gt0) w_ (Kx K w.heap.size []) v0 x0 ∧ RepV (.sl (.int .u8)) w_ (Kx K w.heap.size []) v1 x1) ?_ ?_
       ·by_cases hc : (decide (c_15 < (lenI x0))) = true
        ·rw [if_pos hc] at eq_25; rw [hc] at S
         refine wl_pure (l' := [(27, .int .i64 c_15), (26, v0), (25, .bool true), (6, .int .i64 c_15), (0, v0), (1, v1)]) S tys tys_ok 2 (by kernel_rfl) ?_
         clear S; intro a S
         obtain ⟨y_26, ey_26, eq_25⟩ := bindS eq_25
         refine w_go S rfl (op_indexAddr S rfl ty23 rfl rfl rfl R0 rfl ey_26 ?_)
         clear S; intro a p_27 R_28 H_29 S
         refine wl_pure (l' := [(29, .pointer (some (p_27.add (coff gf0 0)))), (28, .pointer (some p_27)), (27, .int .i64 c_15), (26, v0), (25, .bool true), (6, .int .i64 c_15), (0, v0), (1, v1)]) S tys tys_ok 1 (by kernel_rfl) ?_
         clear S; intro a S
         refine w_go S rfl (op_load (t := (.sl (.int .u8))) (x := y_26.1) S rfl ty25 rfl rfl rfl (RepAt.add 0 (RepAt.st (t := gf0) R_28)) ?_)
         clear S; intro a v_30 R_31 S
         refine wl_pure (l' := [(31, v1), (30, v_30), (29, .pointer (some (p_27.add (coff gf0 0)))), (28, .pointer (some p_27)), (27, .int .i64 c_15), (26, v0), (25, .bool true), (6, .int .i64 c_15), (0, v0), (1, v1)]) S tys tys_ok 1 (by kernel_rfl) ?_
         clear S; intro a S
         obtain ⟨t_32, et_32, eq_25⟩ := bindS eq_25
         refine w_go S rfl (op_call (vs := [v_30, v1]) S rfl cb35 rfl rfl rfl (c35 (Kx K w.heap.size []) n w_23 y_26.1 _ R_31 x1 _ R1 et_32) ?_)
         rintro _ w_36 ⟨v_33, rfl, R_34, hb_35⟩; refine ⟨_, rfl, ?_⟩
         replace R_34 := RepV.back R_34 W
         clear S; intro a S
         replace R0 := R0.step hb_35
         replace R1 := R1.step hb_35
         replace R_31 := R_31.step hb_35
         replace W := W.step hb_35
         obtain ⟨rfl, GR_34⟩ := RepV.int R_34
         refine wl_pure (l' := [(34, .bool (decide (t_32 < 0))), (33, .bool (decide (t_32 < 0))), (32, .int .i64 t_32), (31, v1), (30, v_30), (29, .pointer (some (p_27.add (coff gf0 0)))), (28, .pointer (some p_27)), (27, .int .i64 c_15), (26, v0), (25, .bool true), (6, .int .i64 c_15), (0, v0), (1, v1)]) S tys tys_ok 2 (by kernel_rfl) ?_
         clear S; intro a S
         obtain rfl := Option.some.inj eq_25
         exact ⟨S.sub (by exact ⟨rfl, rfl, rfl, rfl, trivial⟩), W, R0, R1⟩
        ·rw [if_neg hc] at eq_25; rw [show (decide (c_15 < (lenI x0))) = false from Bool.eq_false_iff.2 hc] at S
         refine wl_pure (l' := [(34, .bool false), (33, undef), (32, undef), (31, undef), (30, undef), (29, undef), (28, undef), (27, undef), (26, undef), (25, .bool false), (6, .int .i64 c_15), (0, v0), (1, v1)]) S tys tys_ok 9 (by kernel_rfl) ?_
         clear S; intro a S
         obtain rfl := Option.some.inj eq_25
         exact ⟨S.sub (by exact ⟨rfl, rfl, rfl, rfl, trivial⟩), W, R0, R1⟩
       clear S W eq_25; rintro a w_37 ⟨S, W, R0, R1⟩
       refine wpList_nil ?_
       refine then_n ?_
       refine wp_cond_split (S.eval (show ev _ _ = some (.bool q_25) from rfl)) ?_ ?_
       ·intro hc
        rw [if_pos hc] at hl_22
        refine wp_skip ?_
        refine then_n ?_
        replace S := S.sub (l' := [(6, .int .i64 c_15), (0, v0), (1, v1)]) (by exact ⟨rfl, rfl, rfl, trivial⟩)
        refine wp_block ?_
        refine wp_region_lit ?_
        refine wl_pure (l' := [(35, .int .i64 c_15), (6, .int .i64 c_15), (0, v0), (1, v1)]) S tys tys_ok 1 (by kernel_rfl) ?_
        clear S; intro a S
        obtain ⟨x_38, ex_38, hl_22⟩ := bindS hl_22
        refine w_go S rfl (op_arith S .i64 (c_15 + 1) rfl (.inl rfl) rfl rfl rfl rfl ex_38 ?_)
        clear S; intro a S
        refine wl_pure (l' := [(6, .int .i64 x_38), (36, .int .i64 x_38), (35, .int .i64 c_15), (6, .int .i64 c_15), (0, v0), (1, v1)]) S tys tys_ok 1 (by kernel_rfl) ?_
        clear S; intro a S
        refine wpList_nil ?_
        refine blk_n ?_
        refine then_n ?_
        exact ⟨x_38, ⟨S.sub (by exact ⟨rfl, rfl, rfl, trivial⟩), W, (ckI_some ex_38).2.1, R0, R1, hl_22⟩⟩
       ·intro hc
        rw [if_neg (Bool.eq_false_iff.1 hc)] at hl_22
        refine wp_exit ?_
        refine then_x ?_
        refine then_x ?_
        refine blk_hit ?_
        refine then_n ?_
        obtain rfl := Option.some.inj hl_22
        exact ⟨S.sub (by exact ⟨rfl, rfl, rfl, trivial⟩), W, G_16, R0, R1⟩
    clear S W; rintro a w_39 ⟨S, W, G_20, R0, R1⟩
    refine then_n ?_
    refine wp_seq ?_
    obtain ⟨s_42, es_42, h⟩ := bindS h
    obtain ⟨s_51, es_51, h⟩ := bindS h
    have hR : Rel (Kx K w.heap.size []) Bl := Bl.rel _
    refine wp_region_suf 9 [2, 2, 9, 4, 5, 9, 8, 8, 9, 10, 11, 12] hR [isRep (.sl gt0) (Kx K w.heap.size []) x0, isI .i64 y_19, isRep (.sl gt0) (Kx K w.heap.size []) s_42, isRep (.sl (.int .u8)) (Kx K w.heap.size []) x1, isRep gt0 (Kx K w.heap.size []) (x1, 1, 0), isRep (.sl gt0) (Kx K w.heap.size []) (⟨[(x1, 1, 0)], some 1⟩ : Sl ((Sl (Int)) × Int × Int)), isRep (.sl gt0) (Kx K w.heap.size []) x0, isI .i64 y_19, isRep (.sl gt0) (Kx K w.heap.size []) s_51] [[], [], [(0, 37), (1, 38)], [], [(3, 40)], [(4, 41)], [], [], [(6, 43), (7, 44)]] (by kernel_rfl) (by rw [S.size]; kernel_rfl) (by kernel_rfl) (by kernel_rfl) (by kernel_rfl) rfl ⟨(stab_rep hR), stab_I, (stab_rep hR), (stab_rep hR), (stab_rep hR), (stab_rep hR), (stab_rep hR), stab_I, (stab_rep hR), trivial⟩ ?_ ?_
    ·
     refine RunAll.cons (isRep (.sl gt0) (Kx K w.heap.size []) x0) [] rfl rfl ?_ ?_
     ·intro W_ hW
      have S1 := S
      replace R0 := R0.step hW
      exact RPost.one (v := v0) S1 tys tys_ok rfl (by kernel_rfl) S.defers R0 (Below.refl _ _)
     refine RunAll.cons (isI .i64 y_19) [] rfl rfl ?_ ?_
     ·intro W_ hW
      have S1 := S
      exact RPost.one (v := .int .i64 y_19) S1 tys tys_ok rfl (by kernel_rfl) S.defers ⟨rfl, G_20⟩ (Below.refl _ _)
     refine RunAll.cons (isRep (.sl gt0) (Kx K w.heap.size []) s_42) [(isRep (.sl gt0) (Kx K w.heap.size []) x0, 37), (isI .i64 y_19, 38)] rfl rfl ?_ ?_
     ·intro W_ hW
      have S1 := S
      intro v_53 hF_52; replace hF_52 : RepV _ _ _ _ _ := hF_52
      replace S1 := S1.put (by decide : 37 < 48) (v_53)
      rintro _ ⟨rfl, hF_54⟩
      replace S1 := S1.put (by decide : 38 < 48) (.int .i64 y_19)
      refine fill_nil S1 ?_; clear S1; intro a_ S1
      have S0 := S.defers; replace S := S1; clear S1
      refine w_go S rfl (op_slice S rfl ty23 rfl rfl rfl hF_52 (.inl ⟨rfl, rfl⟩) (.inr ⟨_, _, rfl, rfl⟩) es_42 ?_)
      clear S; intro a v_56 R_57 S
      refine wpList_nil ?_
      exact RPost.mk_ S rfl S0 R_57 (Below.refl _ _)
     refine RunAll.cons (isRep (.sl (.int .u8)) (Kx K w.heap.size []) x1) [] rfl rfl ?_ ?_
     ·intro W_ hW
      have S1 := S
      replace R1 := R1.step hW
      exact RPost.one (v := v1) S1 tys tys_ok rfl (by kernel_rfl) S.defers R1 (Below.refl _ _)
     refine RunAll.cons (isRep gt0 (Kx K w.heap.size []) (x1, 1, 0)) [(isRep (.sl (.int .u8)) (Kx K w.heap.size []) x1, 40)] rfl rfl ?_ ?_
     ·intro W_ hW
      have S1 := S
      intro v_59 hF_58; replace hF_58 : RepV _ _ _ _ _ := hF_58
      replace S1 := S1.put (by decide : 40 < 48) (v_59)
      refine fill_nil S1 ?_; clear S1; intro a_ S1
      have S0 := S.defers; replace S := S1; clear S1
      refine w_go S rfl (op_build (K := (Kx K w.heap.size [])) (f := gf0) (z0 := (⟨[], some 0⟩, 0, 0)) (x := (x1, 1, 0)) (vs := [v_59, .int .u8 1]) S _ rfl ty33 z33 (fun w K => ⟨[.slice .none 0 0], [.int .u8 0, .int .u8 0], rfl, ⟨.none, 0, 0, rfl, rfl, Nat.le_refl _, by decide, fun k h => Option.some.inj h, .inl rfl⟩, ⟨[.int .u8 0], [.int .u8 0], rfl, ⟨rfl, by decide⟩, ⟨rfl, by decide⟩⟩⟩) rfl rfl rfl [(0, v_59), (1, .int .u8 1)] rfl ⟨_, hF_58, rfl, rfl, ⟨_, (RepV.mkInt (by decide)), rfl, rfl, rfl⟩⟩ ?_)
      clear S; intro a v_60 R_61 S
      refine wpList_nil ?_
      exact RPost.mk_ S rfl S0 R_61 (Below.refl _ _)
     refine RunAll.cons (isRep (.sl gt0) (Kx K w.heap.size []) (⟨[(x1, 1, 0)], some 1⟩ : Sl ((Sl (Int)) × Int × Int))) [(isRep gt0 (Kx K w.heap.size []) (x1, 1, 0), 41)] rfl rfl ?_ ?_
     ·intro W_ hW
      have S1 := S
      intro v_63 hF_62; replace hF_62 : RepV _ _ _ _ _ := hF_62
      replace S1 := S1.put (by decide : 41 < 48) (v_63)
      refine fill_nil S1 ?_; clear S1; intro a_ S1
      replace W := W.step hW
      have S0 := S.defers; replace S := S1; clear S1
      refine w_go S rfl (op_buildSlice (K := K) (e := gt0) (vs := [v_63]) (xs := [(x1, 1, 0)]) S W rfl ty23 rfl rfl (by kernel_rfl) rfl rfl rfl rfl rfl ⟨hF_62, trivial⟩ ?_)
      clear S; intro a w_67 v_64 hb_66 R_65 S
      refine wpList_nil ?_
      exact RPost.mk_ S rfl S0 R_65 (hb_66)
     refine RunAll.cons (isRep (.sl gt0) (Kx K w.heap.size []) x0) [] rfl rfl ?_ ?_
     ·intro W_ hW
      have S1 := S
      replace R0 := R0.step hW
      exact RPost.one (v := v0) S1 tys tys_ok rfl (by kernel_rfl) S.defers R0 (Below.refl _ _)
     refine RunAll.cons (isI .i64 y_19) [] rfl rfl ?_ ?_
     ·intro W_ hW
      have S1 := S
      exact RPost.one (v := .int .i64 y_19) S1 tys tys_ok rfl (by kernel_rfl) S.defers ⟨rfl, G_20⟩ (Below.refl _ _)
     refine RunAll.cons (isRep (.sl gt0) (Kx K w.heap.size []) s_51) [(isRep (.sl gt0) (Kx K w.heap.size []) x0, 43), (isI .i64 y_19, 44)] rfl rfl ?_ ?_
     ·intro W_ hW
      have S1 := S
      intro v_69 hF_68; replace hF_68 : RepV _ _ _ _ _ := hF_68
      replace S1 := S1.put (by decide : 43 < 48) (v_69)
      rintro _ ⟨rfl, hF_70⟩
      replace S1 := S1.put (by decide : 44 < 48) (.int .i64 y_19)
      refine fill_nil S1 ?_; clear S1; intro a_ S1
      have S0 := S.defers; replace S := S1; clear S1
      refine w_go S rfl (op_slice S rfl ty23 rfl rfl rfl hF_68 (.inr ⟨_, _, rfl, rfl⟩) (.inl ⟨rfl, rfl⟩) es_51 ?_)
      clear S; intro a v_72 R_73 S
      refine wpList_nil ?_
      exact RPost.mk_ S rfl S0 R_73 (Below.refl _ _)
     exact trivial
    intro w_74 hb_75
    refine EndE.some_ rfl ?_
    intro v_77 hF_76; replace hF_76 : RepV _ _ _ _ _ := hF_76
    replace S := S.put (by decide : 37 < 48) (v_77)
    refine EndE.some_ rfl ?_
    rintro _ ⟨rfl, hF_78⟩
    replace S := S.put (by decide : 38 < 48) (.int .i64 y_19)
    refine EndE.some_ rfl ?_
    intro v_81 hF_80; replace hF_80 : RepV _ _ _ _ _ := hF_80
    replace S := S.put (by decide : 39 < 48) (v_81)
    refine EndE.some_ rfl ?_
    intro v_83 hF_82; replace hF_82 : RepV _ _ _ _ _ := hF_82
    replace S := S.put (by decide : 40 < 48) (v_83)
    refine EndE.some_ rfl ?_
    intro v_85 hF_84; replace hF_84 : RepV _ _ _ _ _ := hF_84
    replace S := S.put (by decide : 41 < 48) (v_85)
    refine EndE.some_ rfl ?_
    intro v_87 hF_86; replace hF_86 : RepV _ _ _ _ _ := hF_86
    replace S := S.put (by decide : 42 < 48) (v_87)
    refine EndE.some_ rfl ?_
    intro v_89 hF_88; replace hF_88 : RepV _ _ _ _ _ := hF_88
    replace S := S.put (by decide : 43 < 48) (v_89)
    refine EndE.some_ rfl ?_
    rintro _ ⟨rfl, hF_90⟩
    replace S := S.put (by decide : 44 < 48) (.int .i64 y_19)
    refine EndE.some_ rfl ?_
    intro v_93 hF_92; replace hF_92 : RepV _ _ _ _ _ := hF_92
    replace S := S.put (by decide : 45 < 48) (v_93)
    refine endE_nil S ?_; clear S; intro a S
    replace R0 := R0.step hb_75
    replace R1 := R1.step hb_75
    replace W := W.step hb_75
    refine w_go S rfl (op_buildSlice (K := K) (e := (.sl gt0)) (vs := [v_81, v_87, v_93]) (xs := [s_42, (⟨[(x1, 1, 0)], some 1⟩ : Sl ((Sl (Int)) × Int × Int)), s_51]) S W rfl ty83 rfl rfl (by kernel_rfl) rfl rfl rfl rfl rfl ⟨hF_80, hF_86, hF_92, trivial⟩ ?_)
    clear S; intro a w_97 v_94 hb_96 R_95 S
    replace R0 := R0.step hb_96
    replace R1 := R1.step hb_96
    replace hF_76 := hF_76.step hb_96
    replace hF_80 := hF_80.step hb_96
    replace hF_82 := hF_82.step hb_96
    replace hF_84 := hF_84.step hb_96
    replace hF_86 := hF_86.step hb_96
    replace hF_88 := hF_88.step hb_96
    replace hF_92 := hF_92.step hb_96
    replace W := W.step hb_96
    obtain ⟨t_98, et_98, h⟩ := bindS h
    refine w_go S rfl (op_call (vs := [v_94]) S rfl cb64 rfl rfl rfl (c64 (Kx K w.heap.size []) n w_97 (⟨[s_42, (⟨[(x1, 1, 0)], some 1⟩ : Sl ((Sl (Int)) × Int × Int)), s_51], some 3⟩ : Sl (Sl ((Sl (Int)) × Int × Int))) _ R_95 et_98) ?_)
    rintro _ w_102 ⟨v_99, rfl, R_100, hb_101⟩; refine ⟨_, rfl, ?_⟩
    have NO_ := newO_of R_100 (Nat.le_refl _) hb_101
    replace R_100 := Ow.backO R_100 W
    clear S; intro a S
    replace R0 := R0.newO NO_
    replace R1 := R1.newO NO_
    replace hF_76 := hF_76.newO NO_
    replace hF_80 := hF_80.newO NO_
    replace hF_82 := hF_82.newO NO_
    replace hF_84 := hF_84.newO NO_
    replace hF_86 := hF_86.newO NO_
    replace hF_88 := hF_88.newO NO_
    replace hF_92 := hF_92.newO NO_
    replace R_95 := R_95.newO NO_
    replace W := W.newO NO_
    clear NO_
    refine wl_pureK (l' := [(5, .int .i64 0), (4, v_99)]) S tys tys_ok 2 [5, 4] (by kernel_rfl) ?_
    clear S; intro a S
    refine wpList_nil ?_
    refine then_n ?_
    refine wp_ret ?_
    obtain rfl := Option.some.inj h
    exact b_ret2 S rfl rfl rfl ⟨_, _, rfl, (R_100.lessO 0 rfl), (RepV.mkInt (by decide)), W.below⟩
theorem cb54 : callB Try.prog 54 = true := by kernel_rfl
def p49 (n : Nat) (x0 : Sl (Int)) (x1 : Sl (Int)) : Option ((Bool)) :=
 (if (decide ((lenI x0) > (lenI x1))) = true then (slI x0 0 (lenI x1)).bind fun s_7 => (p61 n s_7 x1).bind fun t_8 => some t_8 else some false).bind fun q_3 =>
 some q_3
set_option maxHeartbeats 4000000 in
set_option maxRecDepth 100000 in
/-- plugboard/events.through -/
theorem c49 (K : Nat → Prop) (n : Nat) (w : World) (x0 : Sl (Int)) (v0 : Value) (R0 : RepV (.sl (.int .u8)) w K v0 x0) (x1 : Sl (Int)) (v1 : Value) (R1 : RepV (.sl (.int .u8)) w K v1 x1) {r : (Bool)} (h : p49 n x0 x1 = some r) :
  Calls Try.prog 49 #[v0, v1] w (Ret1 .bool w (Kx K w.heap.size []) r) := by
 refine enter (args := [v0, v1]) Try.func49 rfl 18 rfl rfl fun a S => ?_
 have W := Wd.start w
 replace R0 := R0.arg
 replace R1 := R1.arg
 unfold p49 at h
 replace S : St 18 a [(0, v0), (1, v1)] := S
 refine wp_seq ?_
 refine wp_region_lit ?_
 refine wl_pure (l' := [(4, .bool false), (0, v0), (1, v1)]) S tys tys_ok 1 (by kernel_rfl) ?_
 clear S; intro a S
 refine wpList_nil ?_
 refine then_n ?_
 replace S := S.sub (l' := [(0, v0), (1, v1)]) (by exact ⟨rfl, rfl, trivial⟩)
 refine wp_seq ?_
 refine wp_region_lit ?_
 refine wl_pure (l' := [(5, v0), (0, v0), (1, v1)]) S tys tys_ok 1 (by kernel_rfl) ?_
 clear S; intro a S
 refine w_go S rfl (op_len (K := _) S rfl ty25 rfl rfl rfl R0 ?_)
 clear S; intro a G_1 S
 refine wl_pure (l' := [(7, v1), (6, .int .i64 (lenI x0)), (5, v0), (0, v0), (1, v1)]) S tys tys_ok 1 (by kernel_rfl) ?_
 clear S; intro a S
 refine w_go S rfl (op_len (K := _) S rfl ty25 rfl rfl rfl R1 ?_)
 clear S; intro a G_2 S
 refine wl_pureK (l' := [(10, .bool (decide ((lenI x0) > (lenI x1)))), (0, v0), (1, v1)]) S tys tys_ok 2 [10, 0, 1] (by kernel_rfl) ?_
 clear S; intro a S
 obtain ⟨q_3, eq_3, h⟩ := bindS h
 refine seg 7 (fun a_ w_ => St 18 a_ [(17, .bool q_3)] ∧ Wd w w_ []) ?_ ?_
 ·by_cases hc : (decide ((lenI x0) > (lenI x1))) = true
  ·rw [if_pos hc] at eq_3; rw [hc] at S
   refine wl_pure (l' := [(12, v1), (11, v0), (10, .bool true), (0, v0), (1, v1)]) S tys tys_ok 2 (by kernel_rfl) ?_
   clear S; intro a S
   refine w_go S rfl (op_len (K := _) S rfl ty25 rfl rfl rfl R1 ?_)
   clear S; intro a G_4 S
   obtain ⟨s_7, es_7, eq_3⟩ := bindS eq_3
   refine w_go S rfl (op_slice S rfl ty25 rfl rfl rfl R0 (.inl ⟨rfl, rfl⟩) (.inr ⟨_, _, rfl, rfl⟩) es_7 ?_)
   clear S; intro a v_5 R_6 S
   refine wl_pureK (l' := [(15, v1), (14, v_5), (10, .bool true)]) S tys tys_ok 1 [15, 14, 10] (by kernel_rfl) ?_
   clear S; intro a S
   obtain ⟨t_8, et_8, eq_3⟩ := bindS eq_3
   refine w_go S rfl (op_call (vs := [v_5, v1]) S rfl cb61 rfl rfl rfl (c61 (Kx K w.heap.size []) n w s_7 _ R_6 x1 _ R1 et_8) ?_)
   rintro _ w_12 ⟨v_9, rfl, R_10, hb_11⟩; refine ⟨_, rfl, ?_⟩
   replace R_10 := RepV.back R_10 W
   clear S; intro a S
   replace R_6 := R_6.step hb_11
   replace R1 := R1.step hb_11
   replace W := W.step hb_11
   obtain rfl := RepV.bool R_10
   refine wl_pureK (l' := [(17, .bool t_8)]) S tys tys_ok 1 [17] (by kernel_rfl) ?_
   clear S; intro a S
   obtain rfl := Option.some.inj eq_3
   exact ⟨S.sub (by exact ⟨rfl, trivial⟩), W⟩
  ·rw [if_neg hc] at eq_3; rw [show (decide ((lenI x0) > (lenI x1))) = false from Bool.eq_false_iff.2 hc] at S
   refine wl_pureK (l' := [(17, .bool false)]) S tys tys_ok 7 [17] (by kernel_rfl) ?_
   clear S; intro a S
   obtain rfl := Option.some.inj eq_3
   exact ⟨S.sub (by exact ⟨rfl, trivial⟩), W⟩
 clear S W eq_3; rintro a w_13 ⟨S, W⟩
 refine wl_pure (l' := [(4, .bool q_3), (17, .bool q_3)]) S tys tys_ok 1 (by kernel_rfl) ?_
 clear S; intro a S
 refine wpList_nil ?_
 refine then_n ?_
 replace S := S.sub (l' := [(4, .bool q_3)]) (by exact ⟨rfl, trivial⟩)
 refine wp_ret ?_
 obtain rfl := Option.some.inj h
 exact b_ret1 S rfl rfl ⟨_, rfl, RepV.mkBool, W.below⟩
theorem cb49 : callB Try.prog 49 = true := by kernel_rfl
def p65 (n : Nat) (x0 : (Sl (Int)) × Int × Int) (y0 : Sl (Int)) : Option ((Bool)) :=
 (p49 n x0.1 y0).bind fun t_9 =>
 some t_9
set_option maxHeartbeats 4000000 in
set_option maxRecDepth 100000 in
/-- (plugboard/events.Tree).detach$1 -/
theorem c65 (K : Nat → Prop) (n : Nat) (w : World) (x0 : (Sl (Int)) × Int × Int) (v0 : Value) (R0 : RepV gt0 w K v0 x0) (q0 : Addr) (y0 : Sl (Int)) (Q0 : Br (.sl (.int .u8)) w K q0 y0) {r : (Bool)} (h : p65 n x0 y0 = some r) :
  Calls Try.prog 65 #[v0, .pointer (some q0)] w (Ret1 .bool w (Kx K w.heap.size []) r) := by
 refine enter (args := [v0, .pointer (some q0)]) Try.func65 rfl 8 rfl rfl fun a S => ?_
 have W := Wd.start w
 replace R0 := R0.arg
 unfold p65 at h
 replace S : St 8 a [(0, v0), (1, .pointer (some q0))] := S
 refine wp_seq ?_
 refine wp_region_lit ?_
 refine w_go S rfl (op_box S rfl rfl rfl rfl rfl R0 ?_)
 clear S; intro a w_3 b_1 hb_4 B_2 S
 replace R0 := R0.box hb_4
 replace W := W.box hb_4
 refine wl_pure (l' := [(3, .bool false), (2, pB b_1), (0, v0), (1, .pointer (some q0))]) S tys tys_ok 1 (by kernel_rfl) ?_
 clear S; intro a S
 refine wpList_nil ?_
 refine then_n ?_
 replace S := S.sub (l' := [(2, pB b_1), (1, .pointer (some q0))]) (by exact ⟨rfl, rfl, trivial⟩)
 refine wp_seq ?_
 refine wp_region_lit ?_
 refine wl_pure (l' := [(4, .pointer (some ((⟨b_1, 0, .none⟩ : Addr).add (coff gf0 0)))), (2, pB b_1), (1, .pointer (some q0))]) S tys tys_ok 1 (by kernel_rfl) ?_
 clear S; intro a S
 refine w_go S rfl (op_load (t := (.sl (.int .u8))) (x := x0.1) S rfl ty25 rfl rfl rfl (RepAt.add 0 (RepAt.st (t := gf0) B_2.at_)) ?_)
 clear S; intro a v_5 R_6 S
 refine w_go S rfl (op_load (t := (.sl (.int .u8))) (x := y0) S rfl ty25 rfl rfl rfl (Br.now Q0 W) ?_)
 clear S; intro a v_7 R_8 S
 obtain ⟨t_9, et_9, h⟩ := bindS h
 refine w_go S rfl (op_call (vs := [v_5, v_7]) S rfl cb49 rfl rfl rfl (c49 (Kx K w.heap.size [some b_1]) n w_3 x0.1 _ R_6 y0 _ R_8 et_9) ?_)
 rintro _ w_13 ⟨v_10, rfl, R_11, hb_12⟩; refine ⟨_, rfl, ?_⟩
 replace R_11 := RepV.back R_11 W
 clear S; intro a S
 replace R_6 := R_6.step hb_12
 replace R_8 := R_8.step hb_12
 replace B_2 := B_2.step hb_12
 replace W := W.step hb_12
 obtain rfl := RepV.bool R_11
 refine wl_pureK (l' := [(3, .bool t_9)]) S tys tys_ok 1 [3] (by kernel_rfl) ?_
 clear S; intro a S
 refine wpList_nil ?_
 refine then_n ?_
 refine wp_ret ?_
 obtain rfl := Option.some.inj h
 exact b_ret1 S rfl rfl ⟨_, rfl, RepV.mkBool, W.below⟩
theorem cb65 : callB Try.prog 65 = true := by kernel_rfl
def p59_65_l1 (n : Nat) (x0 : Sl ((Sl (Int)) × Int × Int)) (y1_0 : Sl (Int)) : Nat → (Int) → Option ((Unit) ⊕ ((Int)))
 | 0, _ => .none
 | m + 1, c_2 => if (decide (c_2 < (lenI x0))) then ((idx x0.xs c_2).bind fun y_11 => (p65 n y_11 y1_0).bind fun t_17 => if t_17 then (some (.inr c_2)) else (ckI .i64 (c_2 + 1)).bind fun x_22 => p59_65_l1 n x0 y1_0 m x_22) else some (.inl ())
def p59_65 (n : Nat) (x0 : Sl ((Sl (Int)) × Int × Int)) (y1_0 : Sl (Int)) : Option ((Int)) :=
 (p59_65_l1 n x0 y1_0 n 0).bind fun (y_6 : (Unit) ⊕ ((Int))) =>
 lrK y_6 some fun (s_7 : Unit) =>
 some (-1)
set_option maxHeartbeats 4000000 in
set_option maxRecDepth 100000 in
/-- slices.IndexFunc[plugboard/events.Tree,plugboard/events.Node] -/
theorem c59_65 (K : Nat → Prop) (n : Nat) (w : World) (x0 : Sl ((Sl (Int)) × Int × Int)) (v0 : Value) (R0 : RepV (.sl gt0) w K v0 x0) (q1_0 : Addr) (y1_0 : Sl (Int)) (Q1_0 : Br (.sl (.int .u8)) w K q1_0 y1_0) {r : (Int)} (h : p59_65 n x0 y1_0 = some r) :
  Calls Try.prog 59 #[v0, .func (.func 65) #[] #[.pointer (some q1_0)]] w (Ret1 (.int .i64) w (Kx K w.heap.size []) r) := by
 refine enter (args := [v0, .func (.func 65) #[] #[.pointer (some q1_0)]]) Try.func59 rfl 19 rfl rfl fun a S => ?_
 have W := Wd.start w
 replace R0 := R0.arg
 unfold p59_65 at h
 replace S : St 19 a [(0, v0), (1, .func (.func 65) #[] #[.pointer (some q1_0)])] := S
 refine wp_seq ?_
 refine wp_region_lit ?_
 refine wl_pure (l' := [(4, .int .i64 0), (0, v0), (1, .func (.func 65) #[] #[.pointer (some q1_0)])]) S tys tys_ok 1 (by kernel_rfl) ?_
 clear S; intro a S
 refine wpList_nil ?_
 refine then_n ?_
 replace S := S.sub (l' := [(0, v0), (1, .func (.func 65) #[] #[.pointer (some q1_0)])]) (by exact ⟨rfl, rfl, trivial⟩)
 refine wp_seq ?_
 refine wp_seq ?_
 refine wp_region_lit ?_
 refine wl_pure (l' := [(6, v0), (0, v0), (1, .func (.func 65) #[] #[.pointer (some q1_0)])]) S tys tys_ok 1 (by kernel_rfl) ?_
 clear S; intro a S
 refine w_go S rfl (op_len (K := _) S rfl ty23 rfl rfl rfl R0 ?_)
 clear S; intro a G_1 S
 refine wl_pure (l' := [(8, .int .i64 0), (7, .int .i64 (lenI x0)), (6, v0), (0, v0), (1, .func (.func 65) #[] #[.pointer (some q1_0)])]) S tys tys_ok 1 (by kernel_rfl) ?_
 clear S; intro a S
 refine wpList_nil ?_
 refine then_n ?_
 replace S := S.sub (l' := [(8, .int .i64 0), (7, .int .i64 (lenI x0)), (0, v0), (1, .func (.func 65) #[] #[.pointer (some q1_0)])]) (by exact ⟨rfl, rfl, rfl, rfl, trivial⟩)
 obtain ⟨y_6, ey_6, h⟩ := bindS h
 refine wp_cut_ (fun a_ w_ => ∃ s_7 : Unit, y_6 = .inl s_7 ∧ (St 19 a_ [] ∧ Wd w w_ [])) ?_ ?_
 ·refine wp_block ?_
  refine wp_loop_n (fun m_ a_ w_ => ∃ (c_2 : Int) , St 19 a_ [(8, .int .i64 c_2), (7, .int .i64 (lenI x0)), (0, v0), (1, .func (.func 65) #[] #[.pointer (some q1_0)])] ∧ Wd w w_ [] ∧ InR .i64 c_2 ∧ RepV (.sl gt0) w_ (Kx K w.heap.size []) v0 x0 ∧ p59_65_l1 n x0 y1_0 m_ c_2 = some y_6) n ?_ ?_
  ·skip
   exact ⟨0, ⟨S.sub (by exact ⟨rfl, rfl, rfl, rfl, trivial⟩), W, (show InR .i64 0 by decide), R0, ey_6⟩⟩
  ·clear S W; rintro m_8 a w_10 ⟨c_2, S, W, G_3, R0, hl_9⟩
   cases m_8 with
   | zero => exact absurd hl_9 (by simp [p59_65_l1])
   | succ m_8 =>
    refine ⟨m_8, rfl, ?_⟩
    rw [p59_65_l1] at hl_9
    refine wp_seq ?_
    refine wp_region_lit ?_
    refine wl_pure (l' := [(9, .bool (decide (c_2 < (lenI x0)))), (8, .int .i64 c_2), (7, .int .i64 (lenI x0)), (0, v0), (1, .func (.func 65) #[] #[.pointer (some q1_0)])]) S tys tys_ok 1 (by kernel_rfl) ?_
    clear S; intro a S
    refine wpList_nil ?_
    refine then_n ?_
    refine wp_seq ?_
    refine wp_cond_split (S.eval (show ev _ _ = some (.bool (decide (c_2 < (lenI x0)))) from rfl)) ?_ ?_
    ·intro hc
     rw [if_pos hc] at hl_9
     refine wp_skip ?_
     refine then_n ?_
     replace S := S.sub (l' := [(8, .int .i64 c_2), (7, .int .i64 (lenI x0)), (0, v0), (1, .func (.func 65) #[] #[.pointer (some q1_0)])]) (by exact ⟨rfl, rfl, rfl, rfl, trivial⟩)
     refine wp_seq ?_
     refine wp_block ?_
     refine wp_seq ?_
     refine wp_region_lit ?_
     refine wl_pure (l' := [(5, .int .i64 c_2), (10, .int .i64 c_2), (8, .int .i64 c_2), (7, .int .i64 (lenI x0)), (0, v0), (1, .func (.func 65) #[] #[.pointer (some q1_0)])]) S tys tys_ok 2 (by kernel_rfl) ?_
     clear S; intro a S
     refine wpList_nil ?_
     refine then_n ?_
     replace S := S.sub (l' := [(5, .int .i64 c_2), (8, .int .i64 c_2), (7, .int .i64 (lenI x0)), (0, v0), (1, .func (.func 65) #[] #[.pointer (some q1_0)])]) (by exact ⟨rfl, rfl, rfl, rfl, rfl, trivial⟩)
     refine wp_seq ?_
     refine wp_region_lit ?_
     refine wl_pure (l' := [(13, .int .i64 c_2), (12, v0), (11, .func (.func 65) #[] #[.pointer (some q1_0)]), (5, .int .i64 c_2), (8, .int .i64 c_2), (7, .int .i64 (lenI x0)), (0, v0), (1, .func (.func 65) #[] #[.pointer (some q1_0)])]) S tys tys_ok 3 (by kernel_rfl) ?_
     clear S; intro a S
     obtain ⟨y_11, ey_11, hl_9⟩ := bindS hl_9
     refine w_go S rfl (op_indexAddr S rfl ty23 rfl rfl rfl R0 rfl ey_11 ?_)
     clear S; intro a p_12 R_13 H_14 S
     refine w_go S rfl (op_load (t := gt0) (x := y_11) S rfl ty33 rfl rfl rfl R_13 ?_)
     clear S; intro a v_15 R_16 S
     obtain ⟨t_17, et_17, hl_9⟩ := bindS hl_9
     refine w_go S rfl (op_calld (vs := [v_15]) S rfl rfl cb65 rfl rfl rfl (c65 (Kx K w.heap.size []) n w_10 y_11 _ R_16 _ y1_0 (Br.again Q1_0 W) et_17) ?_)
     rintro _ w_21 ⟨v_18, rfl, R_19, hb_20⟩; refine ⟨_, rfl, ?_⟩
     replace R_19 := RepV.back R_19 W
     clear S; intro a S
     replace R0 := R0.step hb_20
     replace R_16 := R_16.step hb_20
     replace W := W.step hb_20
     obtain rfl := RepV.bool R_19
     refine wpList_nil ?_
     refine then_n ?_
     replace S := S.sub (l' := [(16, .bool t_17), (5, .int .i64 c_2), (8, .int .i64 c_2), (7, .int .i64 (lenI x0)), (0, v0), (1, .func (.func 65) #[] #[.pointer (some q1_0)])]) (by exact ⟨rfl, rfl, rfl, rfl, rfl, rfl, trivial⟩)
     refine wp_cond_split (S.eval (show ev _ _ = some (.bool t_17) from rfl)) ?_ ?_
     ·intro hc
      rw [if_pos hc] at hl_9
      refine wp_seq ?_
      refine wp_region_lit ?_
      refine wl_pureK (l' := [(4, .int .i64 c_2)]) S tys tys_ok 2 [4] (by kernel_rfl) ?_
      clear S; intro a S
      refine wpList_nil ?_
      refine then_n ?_
      refine wp_ret ?_
      refine blk_r ?_
      refine then_r ?_
      refine then_r ?_
      refine blk_r ?_
      refine then_r ?_
      refine then_r ?_
      obtain rfl := Option.some.inj hl_9
      obtain rfl := lr_inr h
      exact b_ret1 S rfl rfl ⟨_, rfl, (RepV.mkInt G_3), W.below⟩
     ·intro hc
      rw [if_neg (Bool.eq_false_iff.1 hc)] at hl_9
      refine wp_skip ?_
      refine blk_n ?_
      refine then_n ?_
      replace S := S.sub (l' := [(8, .int .i64 c_2), (7, .int .i64 (lenI x0)), (0, v0), (1, .func (.func 65) #[] #[.pointer (some q1_0)])]) (by exact ⟨rfl, rfl, rfl, rfl, trivial⟩)
      refine wp_region_lit ?_
      obtain ⟨x_22, ex_22, hl_9⟩ := bindS hl_9
      refine w_go S rfl (op_arith S .i64 (c_2 + 1) rfl (.inl rfl) rfl rfl rfl rfl ex_22 ?_)
      clear S; intro a S
      refine wl_pure (l' := [(8, .int .i64 x_22), (18, .int .i64 x_22), (8, .int .i64 c_2), (7, .int .i64 (lenI x0)), (0, v0), (1, .func (.func 65) #[] #[.pointer (some q1_0)])]) S tys tys_ok 1 (by kernel_rfl) ?_
      clear S; intro a S
      refine wpList_nil ?_
      refine then_n ?_
      exact ⟨x_22, ⟨S.sub (by exact ⟨rfl, rfl, rfl, rfl, trivial⟩), W, (ckI_some ex_22).2.1, R0, hl_9⟩⟩
    ·intro hc
     rw [if_neg (Bool.eq_false_iff.1 hc)] at hl_9
     refine wp_exit ?_
     refine then_x ?_
     refine then_x ?_
     refine blk_hit ?_
     refine then_n ?_
     obtain rfl := Option.some.inj hl_9
     exact ⟨_, rfl, ⟨S.sub trivial, W⟩⟩
 clear S W; rintro a w_23 ⟨s_7, rfl, S, W⟩
 replace h := lr_inl h; try dsimp only at h
 refine then_n ?_
 refine wp_seq ?_
 refine wp_region_lit ?_
 refine wl_pure (l' := [(4, .int .i64 (-1))]) S tys tys_ok 1 (by kernel_rfl) ?_
 clear S; intro a S
 refine wpList_nil ?_
 refine then_n ?_
 refine wp_ret ?_
 obtain rfl := Option.some.inj h
 exact b_ret1 S rfl rfl ⟨_, rfl, (RepV.mkInt (by decide)), W.below⟩
def p47_65 (n : Nat) (x0 : Sl ((Sl (Int)) × Int × Int)) (y1_0 : Sl (Int)) : Option ((Bool)) :=
 (p59_65 n x0 y1_0).bind fun t_1 =>
 some (decide (t_1 ≥ 0))
set_option maxHeartbeats 4000000 in
set_option maxRecDepth 100000 in
/-- slices.ContainsFunc[plugboard/events.Tree,plugboard/events.Node] -/
theorem c47_65 (K : Nat → Prop) (n : Nat) (w : World) (x0 : Sl ((Sl (Int)) × Int × Int)) (v0 : Value) (R0 : RepV (.sl gt0) w K v0 x0) (q1_0 : Addr) (y1_0 : Sl (Int)) (Q1_0 : Br (.sl (.int .u8)) w K q1_0 y1_0) {r : (Bool)} (h : p47_65 n x0 y1_0 = some r) :
  Calls Try.prog 47 #[v0, .func (.func 65) #[] #[.pointer (some q1_0)]] w (Ret1 .bool w (Kx K w.heap.size []) r) := by
 refine enter (args := [v0, .func (.func 65) #[] #[.pointer (some q1_0)]]) Try.func47 rfl 9 rfl rfl fun a S => ?_
 have W := Wd.start w
 replace R0 := R0.arg
 unfold p47_65 at h
 replace S : St 9 a [(0, v0), (1, .func (.func 65) #[] #[.pointer (some q1_0)])] := S
 refine wp_seq ?_
 refine wp_region_lit ?_
 refine wl_pure (l' := [(4, .bool false), (0, v0), (1, .func (.func 65) #[] #[.pointer (some q1_0)])]) S tys tys_ok 1 (by kernel_rfl) ?_
 clear S; intro a S
 refine wpList_nil ?_
 refine then_n ?_
 replace S := S.sub (l' := [(0, v0), (1, .func (.func 65) #[] #[.pointer (some q1_0)])]) (by exact ⟨rfl, rfl, trivial⟩)
 refine wp_seq ?_
 refine wp_region_lit ?_
 refine wl_pure (l' := [(6, .func (.func 65) #[] #[.pointer (some q1_0)]), (5, v0), (0, v0), (1, .func (.func 65) #[] #[.pointer (some q1_0)])]) S tys tys_ok 2 (by kernel_rfl) ?_
 clear S; intro a S
 obtain ⟨t_1, et_1, h⟩ := bindS h
 refine w_go S rfl (op_call (vs := [v0, .func (.func 65) #[] #[.pointer (some q1_0)]]) S rfl cb59 rfl rfl rfl (c59_65 (Kx K w.heap.size []) n w x0 _ R0 _ y1_0 (Br.again Q1_0 W) et_1) ?_)
 rintro _ w_5 ⟨v_2, rfl, R_3, hb_4⟩; refine ⟨_, rfl, ?_⟩
 replace R_3 := RepV.back R_3 W
 clear S; intro a S
 replace R0 := R0.step hb_4
 replace W := W.step hb_4
 obtain ⟨rfl, GR_3⟩ := RepV.int R_3
 refine wl_pureK (l' := [(4, .bool (decide (t_1 ≥ 0)))]) S tys tys_ok 2 [4] (by kernel_rfl) ?_
 clear S; intro a S
 refine wpList_nil ?_
 refine then_n ?_
 refine wp_ret ?_
 obtain rfl := Option.some.inj h
 exact b_ret1 S rfl rfl ⟨_, rfl, RepV.mkBool, W.below⟩

end Go.Proofs.Ytmcpcdmonglkjaa
