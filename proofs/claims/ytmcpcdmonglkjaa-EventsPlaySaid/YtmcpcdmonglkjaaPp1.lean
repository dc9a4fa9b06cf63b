/- Functions of the program, as plain data. -/
import Derived.Test.YtmcpcdmonglkjaaP5
set_option linter.unusedVariables false
set_option linter.unusedSimpArgs false
namespace Go.Proofs.Ytmcpcdmonglkjaa
open Go.RowKit

def p19_l1 (n : Nat) (x0 : Sl (Int × Int × (Sl (Int)) × Int)) : Nat → (Int) → (Sl ((Sl (Int)) × Int × Int)) → Option (((Sl ((Sl (Int)) × Int × Int))) ⊕ ((Sl ((Sl (Int)) × Int × Int)) × (Int) × (Int)))
 | 0, _, _ => .none
 | m + 1, c_2, c_4 => if (decide (c_2 < (lenI x0))) then ((idx x0.xs c_2).bind fun y_19 => (if (decide (c_2 > 0)) = true then (ckI .i64 (c_2 - 1)).bind fun x_35 => (idx x0.xs x_35).bind fun y_36 => some (decide (y_19.1 < y_36.1)) else some false).bind fun q_31 => if q_31 then (some (.inr ((⟨[], some 0⟩ : Sl ((Sl (Int)) × Int × Int)), c_2, 1))) else (p30 n c_4 y_19).bind fun t_174 => if (t_174.2 != 0) then (some (.inr ((⟨[], some 0⟩ : Sl ((Sl (Int)) × Int × Int)), c_2, t_174.2))) else (ckI .i64 (c_2 + 1)).bind fun x_181 => p19_l1 n x0 m x_181 t_174.1) else some (.inl c_4)
def p19 (n : Nat) (x0 : Sl (Int × Int × (Sl (Int)) × Int)) : Option ((Sl ((Sl (Int)) × Int × Int)) × (Int) × (Int)) :=
 (p19_l1 n x0 n 0 (⟨[], some 0⟩)).bind fun (y_12 : ((Sl ((Sl (Int)) × Int × Int))) ⊕ ((Sl ((Sl (Int)) × Int × Int)) × (Int) × (Int))) =>
 lrK y_12 some fun (s_13 : (Sl ((Sl (Int)) × Int × Int))) =>
 some (s_13, lenI x0, 0)
set_option maxHeartbeats 4000000 in
set_option maxRecDepth 100000 in
/-- plugboard/events.Play -/
theorem c19 (K : Nat → Prop) (n : Nat) (w : World) (x0 : Sl (Int × Int × (Sl (Int)) × Int)) (v0 : Value) (R0 : RepV (.sl gt2) w K v0 x0) {r : (Sl ((Sl (Int)) × Int × Int)) × (Int) × (Int)} (h : p19 n x0 = some r) :
  Calls Try.prog 19 #[v0] w (Ret3 (.sl gt0) (.int .i64) (.int .i64) w (Kx K w.heap.size []) r) := by
 refine enter (args := [v0]) Try.func19 rfl 46 rfl rfl fun a S => ?_
 have W := Wd.start w
 replace R0 := R0.arg
 unfold p19 at h
 replace S : St 46 a [(0, v0)] := S
 refine wp_seq ?_
 refine wp_region_lit ?_
 refine wl_pureK (l' := [(0, v0)]) S tys tys_ok 3 [0] (by kernel_rfl) ?_
 clear S; intro a S
 refine wpList_nil ?_
 refine then_n ?_
 refine wp_seq ?_
 refine wp_region_lit ?_
 refine wl_pure (l' := [(5, .slice .none 0 0), (0, v0)]) S tys tys_ok 1 (by kernel_rfl) ?_
 clear S; intro a S
 refine wpList_nil ?_
 refine then_n ?_
 refine wp_seq ?_
 refine wp_seq ?_
 refine wp_region_lit ?_
 refine wl_pure (l' := [(10, v0), (5, .slice .none 0 0), (0, v0)]) S tys tys_ok 1 (by kernel_rfl) ?_
 clear S; intro a S
 refine w_go S rfl (op_len (K := _) S rfl ty48 rfl rfl rfl R0 ?_)
 clear S; intro a G_1 S
 refine wl_pure (l' := [(12, .int .i64 0), (11, .int .i64 (lenI x0)), (10, v0), (5, .slice .none 0 0), (0, v0)]) S tys tys_ok 1 (by kernel_rfl) ?_
 clear S; intro a S
 refine wpList_nil ?_
 refine then_n ?_
 obtain ⟨y_12, ey_12, h⟩ := bindS h
 refine wp_cut_ (fun a_ w_ => ∃ s_13 : (Sl ((Sl (Int)) × Int × Int)), y_12 = .inl s_13 ∧ (∃ (v_14 : Value), St 46 a_ [(0, v0), (5, v_14)] ∧ Wd w w_ [] ∧ RepV (.sl gt2) w_ (Kx K w.heap.size []) v0 x0 ∧ RepV (.sl gt0) w_ (Kx K w.heap.size []) v_14 s_13)) ?_ ?_
 ·refine wp_block ?_
  refine wp_loop_n (fun m_ a_ w_ => ∃ (c_2 : Int) (c_4 : Sl ((Sl (Int)) × Int × Int)) , ∃ (v_5 : Value), St 46 a_ [(12, .int .i64 c_2), (11, .int .i64 (lenI x0)), (10, v0), (5, v_5), (0, v0)] ∧ Wd w w_ [] ∧ InR .i64 c_2 ∧ RepV (.sl gt2) w_ (Kx K w.heap.size []) v0 x0 ∧ RepV (.sl gt0) w_ (Kx K w.heap.size []) v_5 c_4 ∧ p19_l1 n x0 m_ c_2 c_4 = some y_12) n ?_ ?_
  ·skip
   exact ⟨0, ⟨[], some 0⟩, ⟨.slice .none 0 0, S.sub (by exact ⟨rfl, rfl, rfl, rfl, rfl, trivial⟩), W, (show InR .i64 0 by decide), R0, RepV.nil, ey_12⟩⟩
  ·clear S W; rintro m_16 a w_18 ⟨c_2, c_4, v_5, S, W, G_3, R0, R_6, hl_17⟩
   cases m_16 with
   | zero => exact absurd hl_17 (by simp [p19_l1])
   | succ m_16 =>
    refine ⟨m_16, rfl, ?_⟩
    rw [p19_l1] at hl_17
    refine wp_seq ?_
    refine wp_region_lit ?_
    refine wl_pure (l' := [(13, .bool (decide (c_2 < (lenI x0)))), (12, .int .i64 c_2), (11, .int .i64 (lenI x0)), (10, v0), (5, v_5), (0, v0)]) S tys tys_ok 1 (by kernel_rfl) ?_
    clear S; intro a S
    refine wpList_nil ?_
    refine then_n ?_
    refine wp_seq ?_
    refine wp_cond_split (S.eval (show ev _ _ = some (.bool (decide (c_2 < (lenI x0)))) from rfl)) ?_ ?_
    ·intro hc
     rw [if_pos hc] at hl_17
     refine wp_skip ?_
     refine then_n ?_
     replace S := S.sub (l' := [(12, .int .i64 c_2), (11, .int .i64 (lenI x0)), (10, v0), (5, v_5), (0, v0)]) (by exact ⟨rfl, rfl, rfl, rfl, rfl, trivial⟩)
     refine wp_seq ?_
     refine wp_block ?_
     refine wp_seq ?_
     refine wp_region_lit ?_
     refine wl_pure (l' := [(14, .int .i64 c_2), (12, .int .i64 c_2), (11, .int .i64 (lenI x0)), (10, v0), (5, v_5), (0, v0)]) S tys tys_ok 1 (by kernel_rfl) ?_
     clear S; intro a S
     obtain ⟨y_19, ey_19, hl_17⟩ := bindS hl_17
     refine w_go S rfl (op_indexAddr S rfl ty48 rfl rfl rfl R0 rfl ey_19 ?_)
     clear S; intro a p_20 R_21 H_22 S
     refine w_go S rfl (op_load (t := gt2) (x := y_19) S rfl ty31 rfl rfl rfl R_21 ?_)
     clear S; intro a v_23 R_24 S
     refine w_go S rfl (op_alloc (K := K) (n := w.heap.size) (L := []) (t := gt2) (y := (0, 0, ⟨[], some 0⟩, 0)) S rfl rfl rfl _ z31 (fun w K => ⟨[.int .i64 0], [.int .u8 0, .slice .none 0 0, .int .u8 0], rfl, ⟨rfl, by decide⟩, ⟨[.int .u8 0], [.slice .none 0 0, .int .u8 0], rfl, ⟨rfl, by decide⟩, ⟨[.slice .none 0 0], [.int .u8 0], rfl, ⟨.none, 0, 0, rfl, rfl, Nat.le_refl _, by decide, fun k h => Option.some.inj h, .inl rfl⟩, ⟨rfl, by decide⟩⟩⟩⟩) ?_)
     clear S; intro a w_27 b_25 hb_28 B_26 S
     replace R0 := R0.box hb_28
     replace R_6 := R_6.box hb_28
     replace R_24 := R_24.box hb_28
     replace W := W.box hb_28
     refine wl_pure (l' := [(6, .int .i64 c_2), (7, pB b_25), (16, v_23), (15, .pointer (some p_20)), (14, .int .i64 c_2), (12, .int .i64 c_2), (11, .int .i64 (lenI x0)), (10, v0), (5, v_5), (0, v0)]) S tys tys_ok 1 (by kernel_rfl) ?_
     clear S; intro a S
     refine w_go S rfl (op_store (t' := gt2) S rfl rfl ty31 rfl rfl rfl B_26 (by simp) Ln.whole R_24 ?_)
     intro w_29 hw_30 B_
     replace R0 := R0.wrote hw_30 (by simp)
     replace R_6 := R_6.wrote hw_30 (by simp)
     replace R_24 := R_24.wrote hw_30 (by simp)
     replace W := W.wrote hw_30 (by simp)
     replace B_26 : Bx gt2 31 w_29 (Kx K w.heap.size [some b_25]) b_25 y_19 := B_; clear B_
     refine wpList_nil ?_
     refine then_n ?_
     replace S := S.sub (l' := [(6, .int .i64 c_2), (7, pB b_25), (12, .int .i64 c_2), (11, .int .i64 (lenI x0)), (10, v0), (5, v_5), (0, v0)]) (by exact ⟨rfl, rfl, rfl, rfl, rfl, rfl, rfl, trivial⟩)
     refine wp_seq ?_
     refine wp_seq ?_
     obtain ⟨q_31, eq_31, hl_17⟩ := bindS hl_17
     obtain ⟨x_35, y_36, HG_32⟩ : ∃ (x_35 : Int) (y_36 : Int × Int × (Sl (Int)) × Int) , ((decide (c_2 > 0)) = true → (ckI .i64 (c_2 - 1)) = some x_35 ∧ (idx x0.xs x_35) = some y_36 ∧ (decide (y_19.1 < y_36.1)) = q_31) ∧ (¬ (decide (c_2 > 0)) = true → false = q_31) := by
      by_cases hc : (decide (c_2 > 0)) = true
      ·rw [if_pos hc] at eq_31
       obtain ⟨x_35, ex_35, eq_31⟩ := bindS eq_31
       obtain ⟨y_36, ey_36, eq_31⟩ := bindS eq_31
       exact ⟨x_35, y_36, ⟨fun _ => ⟨ex_35, ey_36, Option.some.inj eq_31⟩, fun k_ => absurd hc k_⟩⟩
      ·rw [if_neg hc] at eq_31
       exact ⟨default, default, ⟨fun k_ => absurd k_ hc, fun _ => Option.some.inj eq_31⟩⟩
     have hR : Rel (Kx K w.heap.size [some b_25]) Bl := Bl.rel _
     refine wp_region_all hR [isI .i64 c_2, eqv (.bool (decide (c_2 > 0))), eqv (.bool (decide (c_2 > 0))), cndF (decide (c_2 > 0)) true (eqv (.pointer (some ((⟨b_25, 0, .none⟩ : Addr).add (coff gf2 0))))), cndF (decide (c_2 > 0)) true (isI .i64 y_19.1), cndF (decide (c_2 > 0)) true (isRep (.sl gt2) (Kx K w.heap.size [some b_25]) x0), cndF (decide (c_2 > 0)) true (isI .i64 c_2), cndF (decide (c_2 > 0)) true (isI .i64 x_35), cndF (decide (c_2 > 0)) true (isEl gt2 (Kx K w.heap.size [some b_25]) y_36), cndF (decide (c_2 > 0)) true (isEl (.int .i64) (Kx K w.heap.size [some b_25]) y_36.1), cndF (decide (c_2 > 0)) true (isI .i64 y_36.1), cndF (decide (c_2 > 0)) true (eqv (.bool (decide (y_19.1 < y_36.1)))), eqv (.bool q_31)] [[], [(0, 17)], [(1, 18)], [(2, 19)], [(3, 20), (2, 19)], [(2, 19)], [(2, 19)], [(6, 23), (2, 19)], [(5, 22), (7, 24), (2, 19)], [(8, 25), (2, 19)], [(9, 26), (2, 19)], [(4, 21), (10, 27), (2, 19)], [(2, 19), (11, 28)]] (by kernel_rfl) (by rw [S.size]; kernel_rfl) (by kernel_rfl) (by kernel_rfl) rfl ⟨stab_I, (stab_eqv _), (stab_eqv _), (stab_cnd (stab_eqv _)), (stab_cnd stab_I), (stab_cnd (stab_rep hR)), (stab_cnd stab_I), (stab_cnd stab_I), (stab_cnd (stab_el hR)), (stab_cnd (stab_el hR)), (stab_cnd stab_I), (stab_cnd (stab_eqv _)), (stab_eqv _), trivial⟩ ?_ ?_
     ·
      refine RunAll.cons (isI .i64 c_2) [] rfl rfl ?_ ?_
      ·intro W_ hW
       have S1 := S
       exact RPost.one (v := .int .i64 c_2) S1 tys tys_ok rfl (by kernel_rfl) S.defers ⟨rfl, G_3⟩ (Below.refl _ _)
      refine RunAll.cons (eqv (.bool (decide (c_2 > 0)))) [(isI .i64 c_2, 17)] rfl rfl ?_ ?_
      ·intro W_ hW
       have S1 := S
       rintro _ ⟨rfl, hF_42⟩
       replace S1 := S1.put (by decide : 17 < 46) (.int .i64 c_2)
       exact RPost.one (v := .bool (decide (c_2 > 0))) S1 tys tys_ok rfl (by kernel_rfl) S.defers rfl (Below.refl _ _)
      refine RunAll.cons (eqv (.bool (decide (c_2 > 0)))) [(eqv (.bool (decide (c_2 > 0))), 18)] rfl rfl ?_ ?_
      ·intro W_ hW
       have S1 := S
       intro v_45 hF_44; obtain rfl : .bool (decide (c_2 > 0)) = v_45 := Eq.symm hF_44
       replace S1 := S1.put (by decide : 18 < 46) (.bool (decide (c_2 > 0)))
       exact RPost.one (v := .bool (decide (c_2 > 0))) S1 tys tys_ok rfl (by kernel_rfl) S.defers rfl (Below.refl _ _)
      refine RunAll.cons (cndF (decide (c_2 > 0)) true (eqv (.pointer (some ((⟨b_25, 0, .none⟩ : Addr).add (coff gf2 0)))))) [(eqv (.bool (decide (c_2 > 0))), 19)] rfl rfl ?_ ?_
      ·intro W_ hW
       by_cases hc0 : (decide (c_2 > 0)) = true
       ·have hl0 : (decide (c_2 > 0)) = true := hc0
        have S1 := S
        intro v_47 hF_46; obtain rfl : .bool (decide (c_2 > 0)) = v_47 := Eq.symm hF_46
        replace S1 := S1.put (by decide : 19 < 46) (.bool (decide (c_2 > 0)))
        refine fill_nil S1 ?_; clear S1; intro a_ S1
        replace B_26 := B_26.step hW
        rw [show (decide (c_2 > 0)) = true from hl0] at S1
        exact RPost.one (v := .pointer (some ((⟨b_25, 0, .none⟩ : Addr).add (coff gf2 0)))) S1 tys tys_ok rfl (by kernel_rfl) S.defers ⟨fun _ => rfl, fun k_ => absurd hc0 k_⟩ (Below.refl _ _)
       ·have hl0 : (decide (c_2 > 0)) = false := Bool.eq_false_iff.2 hc0
        have S1 := S
        intro v_49 hF_48; obtain rfl : .bool (decide (c_2 > 0)) = v_49 := Eq.symm hF_48
        replace S1 := S1.put (by decide : 19 < 46) (.bool (decide (c_2 > 0)))
        refine fill_nil S1 ?_; clear S1; intro a_ S1
        rw [show (decide (c_2 > 0)) = false from hl0] at S1
        exact RPost.one (v := undef) S1 tys tys_ok rfl (by kernel_rfl) S.defers ⟨fun k_ => absurd k_ hc0, fun _ => rfl⟩ (Below.refl _ _)
      refine RunAll.cons (cndF (decide (c_2 > 0)) true (isI .i64 y_19.1)) [(cndF (decide (c_2 > 0)) true (eqv (.pointer (some ((⟨b_25, 0, .none⟩ : Addr).add (coff gf2 0))))), 20), (eqv (.bool (decide (c_2 > 0))), 19)] rfl rfl ?_ ?_
      ·intro W_ hW
       by_cases hc0 : (decide (c_2 > 0)) = true
       ·have hl0 : (decide (c_2 > 0)) = true := hc0
        have S1 := S
        intro v_50 hF_51
        replace hF_51 := cndF.pos hF_51 hc0
        revert hF_51
        revert v_50
        intro v_53 hF_52; obtain rfl : .pointer (some ((⟨b_25, 0, .none⟩ : Addr).add (coff gf2 0))) = v_53 := Eq.symm hF_52
        replace S1 := S1.put (by decide : 20 < 46) (.pointer (some ((⟨b_25, 0, .none⟩ : Addr).add (coff gf2 0))))
        intro v_55 hF_54; obtain rfl : .bool (decide (c_2 > 0)) = v_55 := Eq.symm hF_54
        replace S1 := S1.put (by decide : 19 < 46) (.bool (decide (c_2 > 0)))
        refine fill_nil S1 ?_; clear S1; intro a_ S1
        replace B_26 := B_26.step hW
        rw [show (decide (c_2 > 0)) = true from hl0] at S1
        have S0 := S.defers; replace S := S1; clear S1
        obtain ⟨ex_35, ey_36, _⟩ := (HG_32).1 hc0
        refine w_go S rfl (op_load (t := (.int .i64)) (x := y_19.1) S rfl ty3 rfl rfl rfl (RepAt.add 0 (RepAt.st (t := gf2) B_26.at_)) ?_)
        clear S; intro a v_56 R_57 S
        obtain ⟨rfl, GR_57⟩ := RepV.int R_57
        refine wpList_nil ?_
        exact RPost.mk_ S rfl S0 ⟨fun _ => ⟨rfl, GR_57⟩, fun k_ => absurd hc0 k_⟩ (Below.refl _ _)
       ·have hl0 : (decide (c_2 > 0)) = false := Bool.eq_false_iff.2 hc0
        have S1 := S
        intro v_58 hF_59
        obtain rfl := cndF.neg hF_59 hc0
        replace S1 := S1.put (by decide : 20 < 46) (undef)
        intro v_61 hF_60; obtain rfl : .bool (decide (c_2 > 0)) = v_61 := Eq.symm hF_60
        replace S1 := S1.put (by decide : 19 < 46) (.bool (decide (c_2 > 0)))
        refine fill_nil S1 ?_; clear S1; intro a_ S1
        rw [show (decide (c_2 > 0)) = false from hl0] at S1
        exact RPost.one (v := undef) S1 tys tys_ok rfl (by kernel_rfl) S.defers ⟨fun k_ => absurd k_ hc0, fun _ => rfl⟩ (Below.refl _ _)
      refine RunAll.cons (cndF (decide (c_2 > 0)) true (isRep (.sl gt2) (Kx K w.heap.size [some b_25]) x0)) [(eqv (.bool (decide (c_2 > 0))), 19)] rfl rfl ?_ ?_
      ·intro W_ hW
       by_cases hc0 : (decide (c_2 > 0)) = true
       ·have hl0 : (decide (c_2 > 0)) = true := hc0
        have S1 := S
        intro v_63 hF_62; obtain rfl : .bool (decide (c_2 > 0)) = v_63 := Eq.symm hF_62
        replace S1 := S1.put (by decide : 19 < 46) (.bool (decide (c_2 > 0)))
        refine fill_nil S1 ?_; clear S1; intro a_ S1
        replace R0 := R0.step hW
        rw [show (decide (c_2 > 0)) = true from hl0] at S1
        exact RPost.one (v := v0) S1 tys tys_ok rfl (by kernel_rfl) S.defers ⟨fun _ => R0, fun k_ => absurd hc0 k_⟩ (Below.refl _ _)
       ·have hl0 : (decide (c_2 > 0)) = false := Bool.eq_false_iff.2 hc0
        have S1 := S
        intro v_65 hF_64; obtain rfl : .bool (decide (c_2 > 0)) = v_65 := Eq.symm hF_64
        replace S1 := S1.put (by decide : 19 < 46) (.bool (decide (c_2 > 0)))
        refine fill_nil S1 ?_; clear S1; intro a_ S1
        rw [show (decide (c_2 > 0)) = false from hl0] at S1
        exact RPost.one (v := undef) S1 tys tys_ok rfl (by kernel_rfl) S.defers ⟨fun k_ => absurd k_ hc0, fun _ => rfl⟩ (Below.refl _ _)
      refine RunAll.cons (cndF (decide (c_2 > 0)) true (isI .i64 c_2)) [(eqv (.bool (decide (c_2 > 0))), 19)] rfl rfl ?_ ?_
      ·intro W_ hW
       by_cases hc0 : (decide (c_2 > 0)) = true
       ·have hl0 : (decide (c_2 > 0)) = true := hc0
        have S1 := S
        intro v_67 hF_66; obtain rfl : .bool (decide (c_2 > 0)) = v_67 := Eq.symm hF_66
        replace S1 := S1.put (by decide : 19 < 46) (.bool (decide (c_2 > 0)))
        refine fill_nil S1 ?_; clear S1; intro a_ S1
        rw [show (decide (c_2 > 0)) = true from hl0] at S1
        exact RPost.one (v := .int .i64 c_2) S1 tys tys_ok rfl (by kernel_rfl) S.defers ⟨fun _ => ⟨rfl, G_3⟩, fun k_ => absurd hc0 k_⟩ (Below.refl _ _)
       ·have hl0 : (decide (c_2 > 0)) = false := Bool.eq_false_iff.2 hc0
        have S1 := S
        intro v_69 hF_68; obtain rfl : .bool (decide (c_2 > 0)) = v_69 := Eq.symm hF_68
        replace S1 := S1.put (by decide : 19 < 46) (.bool (decide (c_2 > 0)))
        refine fill_nil S1 ?_; clear S1; intro a_ S1
        rw [show (decide (c_2 > 0)) = false from hl0] at S1
        exact RPost.one (v := undef) S1 tys tys_ok rfl (by kernel_rfl) S.defers ⟨fun k_ => absurd k_ hc0, fun _ => rfl⟩ (Below.refl _ _)
      refine RunAll.cons (cndF (decide (c_2 > 0)) true (isI .i64 x_35)) [(cndF (decide (c_2 > 0)) true (isI .i64 c_2), 23), (eqv (.bool (decide (c_2 > 0))), 19)] rfl rfl ?_ ?_
      ·intro W_ hW
       by_cases hc0 : (decide (c_2 > 0)) = true
       ·have hl0 : (decide (c_2 > 0)) = true := hc0
        have S1 := S
        intro v_70 hF_71
        replace hF_71 := cndF.pos hF_71 hc0
        revert hF_71
        revert v_70
        rintro _ ⟨rfl, hF_72⟩
        replace S1 := S1.put (by decide : 23 < 46) (.int .i64 c_2)
        intro v_75 hF_74; obtain rfl : .bool (decide (c_2 > 0)) = v_75 := Eq.symm hF_74
        replace S1 := S1.put (by decide : 19 < 46) (.bool (decide (c_2 > 0)))
        refine fill_nil S1 ?_; clear S1; intro a_ S1
        rw [show (decide (c_2 > 0)) = true from hl0] at S1
        have S0 := S.defers; replace S := S1; clear S1
        obtain ⟨ex_35, ey_36, _⟩ := (HG_32).1 hc0
        refine w_go S rfl (op_arith S .i64 (c_2 - 1) rfl (.inr (.inl rfl)) rfl rfl rfl rfl ex_35 ?_)
        clear S; intro a S
        refine wpList_nil ?_
        exact RPost.mk_ S rfl S0 ⟨fun _ => ⟨rfl, (ckI_some ex_35).2.1⟩, fun k_ => absurd hc0 k_⟩ (Below.refl _ _)
       ·have hl0 : (decide (c_2 > 0)) = false := Bool.eq_false_iff.2 hc0
        have S1 := S
        intro v_76 hF_77
        obtain rfl := cndF.neg hF_77 hc0
        replace S1 := S1.put (by decide : 23 < 46) (undef)
        intro v_79 hF_78; obtain rfl : .bool (decide (c_2 > 0)) = v_79 := Eq.symm hF_78
        replace S1 := S1.put (by decide : 19 < 46) (.bool (decide (c_2 > 0)))
        refine fill_nil S1 ?_; clear S1; intro a_ S1
        rw [show (decide (c_2 > 0)) = false from hl0] at S1
        exact RPost.one (v := undef) S1 tys tys_ok rfl (by kernel_rfl) S.defers ⟨fun k_ => absurd k_ hc0, fun _ => rfl⟩ (Below.refl _ _)
      refine RunAll.cons (cndF (decide (c_2 > 0)) true (isEl gt2 (Kx K w.heap.size [some b_25]) y_36)) [(cndF (decide (c_2 > 0)) true (isRep (.sl gt2) (Kx K w.heap.size [some b_25]) x0), 22), (cndF (decide (c_2 > 0)) true (isI .i64 x_35), 24), (eqv (.bool (decide (c_2 > 0))), 19)] rfl rfl ?_ ?_
      ·intro W_ hW
       by_cases hc0 : (decide (c_2 > 0)) = true
       ·have hl0 : (decide (c_2 > 0)) = true := hc0
        have S1 := S
        intro v_80 hF_81
        replace hF_81 := cndF.pos hF_81 hc0
        revert hF_81
        revert v_80
        intro v_83 hF_82; replace hF_82 : RepV _ _ _ _ _ := hF_82
        replace S1 := S1.put (by decide : 22 < 46) (v_83)
        intro v_84 hF_85
        replace hF_85 := cndF.pos hF_85 hc0
        revert hF_85
        revert v_84
        rintro _ ⟨rfl, hF_86⟩
        replace S1 := S1.put (by decide : 24 < 46) (.int .i64 x_35)
        intro v_89 hF_88; obtain rfl : .bool (decide (c_2 > 0)) = v_89 := Eq.symm hF_88
        replace S1 := S1.put (by decide : 19 < 46) (.bool (decide (c_2 > 0)))
        refine fill_nil S1 ?_; clear S1; intro a_ S1
        replace W := W.step hW
        rw [show (decide (c_2 > 0)) = true from hl0] at S1
        have S0 := S.defers; replace S := S1; clear S1
        obtain ⟨ex_35, ey_36, _⟩ := (HG_32).1 hc0
        refine w_go S rfl (op_indexAddr S rfl ty48 rfl rfl rfl hF_82 rfl ey_36 ?_)
        clear S; intro a p_90 R_91 H_92 S
        refine wpList_nil ?_
        exact RPost.mk_ S rfl S0 ⟨fun _ => ⟨_, rfl, R_91, H_92⟩, fun k_ => absurd hc0 k_⟩ (Below.refl _ _)
       ·have hl0 : (decide (c_2 > 0)) = false := Bool.eq_false_iff.2 hc0
        have S1 := S
        intro v_93 hF_94
        obtain rfl := cndF.neg hF_94 hc0
        replace S1 := S1.put (by decide : 22 < 46) (undef)
        intro v_95 hF_96
        obtain rfl := cndF.neg hF_96 hc0
        replace S1 := S1.put (by decide : 24 < 46) (undef)
        intro v_98 hF_97; obtain rfl : .bool (decide (c_2 > 0)) = v_98 := Eq.symm hF_97
        replace S1 := S1.put (by decide : 19 < 46) (.bool (decide (c_2 > 0)))
        refine fill_nil S1 ?_; clear S1; intro a_ S1
        rw [show (decide (c_2 > 0)) = false from hl0] at S1
        exact RPost.one (v := undef) S1 tys tys_ok rfl (by kernel_rfl) S.defers ⟨fun k_ => absurd k_ hc0, fun _ => rfl⟩ (Below.refl _ _)
      refine RunAll.cons (cndF (decide (c_2 > 0)) true (isEl (.int .i64) (Kx K w.heap.size [some b_25]) y_36.1)) [(cndF (decide (c_2 > 0)) true (isEl gt2 (Kx K w.heap.size [some b_25]) y_36), 25), (eqv (.bool (decide (c_2 > 0))), 19)] rfl rfl ?_ ?_
      ·intro W_ hW
       by_cases hc0 : (decide (c_2 > 0)) = true
       ·have hl0 : (decide (c_2 > 0)) = true := hc0
        have S1 := S
        intro v_99 hF_100
        replace hF_100 := cndF.pos hF_100 hc0
        revert hF_100
        revert v_99
        rintro _ ⟨p_103, rfl, R_104, H_105⟩
        replace S1 := S1.put (by decide : 25 < 46) (.pointer (some p_103))
        intro v_107 hF_106; obtain rfl : .bool (decide (c_2 > 0)) = v_107 := Eq.symm hF_106
        replace S1 := S1.put (by decide : 19 < 46) (.bool (decide (c_2 > 0)))
        refine fill_nil S1 ?_; clear S1; intro a_ S1
        rw [show (decide (c_2 > 0)) = true from hl0] at S1
        exact RPost.one (v := .pointer (some (p_103.add (coff gf2 0)))) S1 tys tys_ok rfl (by kernel_rfl) S.defers ⟨fun _ => ⟨_, rfl, (RepAt.add 0 (RepAt.st (t := gf2) R_104)), (by simpa [Addr.add] using H_105)⟩, fun k_ => absurd hc0 k_⟩ (Below.refl _ _)
       ·have hl0 : (decide (c_2 > 0)) = false := Bool.eq_false_iff.2 hc0
        have S1 := S
        intro v_108 hF_109
        obtain rfl := cndF.neg hF_109 hc0
        replace S1 := S1.put (by decide : 25 < 46) (undef)
        intro v_111 hF_110; obtain rfl : .bool (decide (c_2 > 0)) = v_111 := Eq.symm hF_110
        replace S1 := S1.put (by decide : 19 < 46) (.bool (decide (c_2 > 0)))
        refine fill_nil S1 ?_; clear S1; intro a_ S1
        rw [show (decide (c_2 > 0)) = false from hl0] at S1
        exact RPost.one (v := undef) S1 tys tys_ok rfl (by kernel_rfl) S.defers ⟨fun k_ => absurd k_ hc0, fun _ => rfl⟩ (Below.refl _ _)
      refine RunAll.cons (cndF (decide (c_2 > 0)) true (isI .i64 y_36.1)) [(cndF (decide (c_2 > 0)) true (isEl (.int .i64) (Kx K w.heap.size [some b_25]) y_36.1), 26), (eqv (.bool (decide (c_2 > 0))), 19)] rfl rfl ?_ ?_
      ·intro W_ hW
       by_cases hc0 : (decide (c_2 > 0)) = true
       ·have hl0 : (decide (c_2 > 0)) = true := hc0
        have S1 := S
        intro v_112 hF_113
        replace hF_113 := cndF.pos hF_113 hc0
        revert hF_113
        revert v_112
        rintro _ ⟨p_116, rfl, R_117, H_118⟩
        replace S1 := S1.put (by decide : 26 < 46) (.pointer (some p_116))
        intro v_120 hF_119; obtain rfl : .bool (decide (c_2 > 0)) = v_120 := Eq.symm hF_119
        replace S1 := S1.put (by decide : 19 < 46) (.bool (decide (c_2 > 0)))
        refine fill_nil S1 ?_; clear S1; intro a_ S1
        rw [show (decide (c_2 > 0)) = true from hl0] at S1
        have S0 := S.defers; replace S := S1; clear S1
        obtain ⟨ex_35, ey_36, _⟩ := (HG_32).1 hc0
        refine w_go S rfl (op_load (t := (.int .i64)) (x := y_36.1) S rfl ty3 rfl rfl rfl R_117 ?_)
        clear S; intro a v_121 R_122 S
        obtain ⟨rfl, GR_122⟩ := RepV.int R_122
        refine wpList_nil ?_
        exact RPost.mk_ S rfl S0 ⟨fun _ => ⟨rfl, GR_122⟩, fun k_ => absurd hc0 k_⟩ (Below.refl _ _)
       ·have hl0 : (decide (c_2 > 0)) = false := Bool.eq_false_iff.2 hc0
        have S1 := S
        intro v_123 hF_124
        obtain rfl := cndF.neg hF_124 hc0
        replace S1 := S1.put (by decide : 26 < 46) (undef)
        intro v_126 hF_125; obtain rfl : .bool (decide (c_2 > 0)) = v_126 := Eq.symm hF_125
        replace S1 := S1.put (by decide : 19 < 46) (.bool (decide (c_2 > 0)))
        refine fill_nil S1 ?_; clear S1; intro a_ S1
        rw [show (decide (c_2 > 0)) = false from hl0] at S1
        exact RPost.one (v := undef) S1 tys tys_ok rfl (by kernel_rfl) S.defers ⟨fun k_ => absurd k_ hc0, fun _ => rfl⟩ (Below.refl _ _)
      refine RunAll.cons (cndF (decide (c_2 > 0)) true (eqv (.bool (decide (y_19.1 < y_36.1))))) [(cndF (decide (c_2 > 0)) true (isI .i64 y_19.1), 21), (cndF (decide (c_2 > 0)) true (isI .i64 y_36.1), 27), (eqv (.bool (decide (c_2 > 0))), 19)] rfl rfl ?_ ?_
      ·intro W_ hW
       by_cases hc0 : (decide (c_2 > 0)) = true
       ·have hl0 : (decide (c_2 > 0)) = true := hc0
        have S1 := S
        intro v_127 hF_128
        replace hF_128 := cndF.pos hF_128 hc0
        revert hF_128
        revert v_127
        rintro _ ⟨rfl, hF_129⟩
        replace S1 := S1.put (by decide : 21 < 46) (.int .i64 y_19.1)
        intro v_131 hF_132
        replace hF_132 := cndF.pos hF_132 hc0
        revert hF_132
        revert v_131
        rintro _ ⟨rfl, hF_133⟩
        replace S1 := S1.put (by decide : 27 < 46) (.int .i64 y_36.1)
        intro v_136 hF_135; obtain rfl : .bool (decide (c_2 > 0)) = v_136 := Eq.symm hF_135
        replace S1 := S1.put (by decide : 19 < 46) (.bool (decide (c_2 > 0)))
        refine fill_nil S1 ?_; clear S1; intro a_ S1
        rw [show (decide (c_2 > 0)) = true from hl0] at S1
        exact RPost.one (v := .bool (decide (y_19.1 < y_36.1))) S1 tys tys_ok rfl (by kernel_rfl) S.defers ⟨fun _ => rfl, fun k_ => absurd hc0 k_⟩ (Below.refl _ _)
       ·have hl0 : (decide (c_2 > 0)) = false := Bool.eq_false_iff.2 hc0
        have S1 := S
        intro v_137 hF_138
        obtain rfl := cndF.neg hF_138 hc0
        replace S1 := S1.put (by decide : 21 < 46) (undef)
        intro v_139 hF_140
        obtain rfl := cndF.neg hF_140 hc0
        replace S1 := S1.put (by decide : 27 < 46) (undef)
        intro v_142 hF_141; obtain rfl : .bool (decide (c_2 > 0)) = v_142 := Eq.symm hF_141
        replace S1 := S1.put (by decide : 19 < 46) (.bool (decide (c_2 > 0)))
        refine fill_nil S1 ?_; clear S1; intro a_ S1
        rw [show (decide (c_2 > 0)) = false from hl0] at S1
        exact RPost.one (v := undef) S1 tys tys_ok rfl (by kernel_rfl) S.defers ⟨fun k_ => absurd k_ hc0, fun _ => rfl⟩ (Below.refl _ _)
      refine RunAll.cons (eqv (.bool q_31)) [(eqv (.bool (decide (c_2 > 0))), 19), (cndF (decide (c_2 > 0)) true (eqv (.bool (decide (y_19.1 < y_36.1)))), 28)] rfl rfl ?_ ?_
      ·intro W_ hW
       by_cases hc0 : (decide (c_2 > 0)) = true
       ·have hl0 : (decide (c_2 > 0)) = true := hc0
        have S1 := S
        intro v_144 hF_143; obtain rfl : .bool (decide (c_2 > 0)) = v_144 := Eq.symm hF_143
        replace S1 := S1.put (by decide : 19 < 46) (.bool (decide (c_2 > 0)))
        intro v_145 hF_146
        replace hF_146 := cndF.pos hF_146 hc0
        revert hF_146
        revert v_145
        intro v_148 hF_147; obtain rfl : .bool (decide (y_19.1 < y_36.1)) = v_148 := Eq.symm hF_147
        replace S1 := S1.put (by decide : 28 < 46) (.bool (decide (y_19.1 < y_36.1)))
        refine fill_nil S1 ?_; clear S1; intro a_ S1
        rw [show (decide (c_2 > 0)) = true from hl0] at S1
        exact RPost.one (v := .bool (decide (y_19.1 < y_36.1))) S1 tys tys_ok rfl (by kernel_rfl) S.defers (congrArg Value.bool ((HG_32).1 hc0).2.2) (Below.refl _ _)
       ·have hl0 : (decide (c_2 > 0)) = false := Bool.eq_false_iff.2 hc0
        have S1 := S
        intro v_150 hF_149; obtain rfl : .bool (decide (c_2 > 0)) = v_150 := Eq.symm hF_149
        replace S1 := S1.put (by decide : 19 < 46) (.bool (decide (c_2 > 0)))
        intro v_151 hF_152
        obtain rfl := cndF.neg hF_152 hc0
        replace S1 := S1.put (by decide : 28 < 46) (undef)
        refine fill_nil S1 ?_; clear S1; intro a_ S1
        rw [show (decide (c_2 > 0)) = false from hl0] at S1
        exact RPost.one (v := .bool false) S1 tys tys_ok rfl (by kernel_rfl) S.defers (congrArg Value.bool ((HG_32).2 hc0)) (Below.refl _ _)
      exact trivial
     intro w_153 hb_154
     refine EndE.some_ rfl ?_
     rintro _ ⟨rfl, hF_155⟩
     replace S := S.put (by decide : 17 < 46) (.int .i64 c_2)
     refine EndE.some_ rfl ?_
     intro v_158 hF_157; obtain rfl : .bool (decide (c_2 > 0)) = v_158 := Eq.symm hF_157
     replace S := S.put (by decide : 18 < 46) (.bool (decide (c_2 > 0)))
     refine EndE.some_ rfl ?_
     intro v_160 hF_159; obtain rfl : .bool (decide (c_2 > 0)) = v_160 := Eq.symm hF_159
     replace S := S.put (by decide : 19 < 46) (.bool (decide (c_2 > 0)))
     refine EndE.some_ rfl ?_
     intro v_161 _
     replace S := S.put (by decide : 20 < 46) (v_161)
     refine EndE.some_ rfl ?_
     intro v_162 _
     replace S := S.put (by decide : 21 < 46) (v_162)
     refine EndE.some_ rfl ?_
     intro v_163 _
     replace S := S.put (by decide : 22 < 46) (v_163)
     refine EndE.some_ rfl ?_
     intro v_164 _
     replace S := S.put (by decide : 23 < 46) (v_164)
     refine EndE.some_ rfl ?_
     intro v_165 _
     replace S := S.put (by decide : 24 < 46) (v_165)
     refine EndE.some_ rfl ?_
     intro v_166 _
     replace S := S.put (by decide : 25 < 46) (v_166)
     refine EndE.some_ rfl ?_
     intro v_167 _
     replace S := S.put (by decide : 26 < 46) (v_167)
     refine EndE.some_ rfl ?_
     intro v_168 _
     replace S := S.put (by decide : 27 < 46) (v_168)
     refine EndE.some_ rfl ?_
     intro v_169 _
     replace S := S.put (by decide : 28 < 46) (v_169)
     refine EndE.some_ rfl ?_
     intro v_171 hF_170; obtain rfl : .bool q_31 = v_171 := Eq.symm hF_170
     replace S := S.put (by decide : 29 < 46) (.bool q_31)
     refine endE_nil S ?_; clear S; intro a S
     replace R0 := R0.step hb_154
     replace R_6 := R_6.step hb_154
     replace B_26 := B_26.step hb_154
     replace W := W.step hb_154
     refine then_n ?_
     replace S := S.sub (l' := [(29, .bool q_31), (6, .int .i64 c_2), (7, pB b_25), (12, .int .i64 c_2), (11, .int .i64 (lenI x0)), (10, v0), (5, v_5), (0, v0)]) (by exact ⟨rfl, rfl, rfl, rfl, rfl, rfl, rfl, rfl, trivial⟩)
     refine wp_cond_split (S.eval (show ev _ _ = some (.bool q_31) from rfl)) ?_ ?_
     ·intro hc
      rw [if_pos hc] at hl_17
      refine wp_seq ?_
      refine wp_region_lit ?_
      refine wl_pureK (l' := [(4, .int .i64 1), (3, .int .i64 c_2), (2, .slice .none 0 0)]) S tys tys_ok 4 [4, 3, 2] (by kernel_rfl) ?_
      clear S; intro a S
      refine wpList_nil ?_
      refine then_n ?_
      refine wp_ret ?_
      refine then_r ?_
      refine blk_r ?_
      refine then_r ?_
      refine then_r ?_
      refine blk_r ?_
      refine then_r ?_
      refine then_r ?_
      obtain rfl := Option.some.inj hl_17
      obtain rfl := lr_inr h
      exact b_ret3 S rfl rfl rfl rfl ⟨_, _, _, rfl, RepV.nil, (RepV.mkInt G_3), (RepV.mkInt (by decide)), W.below⟩
     ·intro hc
      rw [if_neg (Bool.eq_false_iff.1 hc)] at hl_17
      refine wp_skip ?_
      refine then_n ?_
      replace S := S.sub (l' := [(6, .int .i64 c_2), (7, pB b_25), (12, .int .i64 c_2), (11, .int .i64 (lenI x0)), (10, v0), (5, v_5), (0, v0)]) (by exact ⟨rfl, rfl, rfl, rfl, rfl, rfl, rfl, trivial⟩)
      refine wp_seq ?_
      refine wp_region_lit ?_
      refine wl_pure (l' := [(32, v_5), (6, .int .i64 c_2), (7, pB b_25), (12, .int .i64 c_2), (11, .int .i64 (lenI x0)), (10, v0), (5, v_5), (0, v0)]) S tys tys_ok 1 (by kernel_rfl) ?_
      clear S; intro a S
      refine w_go S rfl (op_load (t := gt2) (x := y_19) S rfl ty31 rfl rfl rfl B_26.at_ ?_)
      clear S; intro a v_172 R_173 S
      obtain ⟨t_174, et_174, hl_17⟩ := bindS hl_17
      refine w_go S rfl (op_call (vs := [v_5, v_172]) S rfl cb30 rfl rfl rfl (c30 (Kx K w.heap.size [some b_25]) n w_153 c_4 _ R_6 y_19 _ R_173 et_174) ?_)
      rintro _ w_180 ⟨v_175, v_176, rfl, R_177, R_178, hb_179⟩; refine ⟨_, rfl, ?_⟩
      replace R_177 := RepV.back R_177 W
      replace R_178 := RepV.back R_178 W
      clear S; intro a S
      replace R0 := R0.step hb_179
      replace R_6 := R_6.step hb_179
      replace R_173 := R_173.step hb_179
      replace B_26 := B_26.step hb_179
      replace W := W.step hb_179
      obtain ⟨rfl, GR_178⟩ := RepV.int R_178
      refine wl_pureK (l' := [(9, .int .i64 t_174.2), (8, v_175), (6, .int .i64 c_2), (12, .int .i64 c_2), (11, .int .i64 (lenI x0)), (10, v0), (0, v0)]) S tys tys_ok 5 [9, 8, 6, 12, 11, 10, 0] (by kernel_rfl) ?_
      clear S; intro a S
      refine wpList_nil ?_
      refine then_n ?_
      refine wp_seq ?_
      refine wp_seq ?_
      refine wp_region_lit ?_
      refine wl_pure (l' := [(38, .bool (t_174.2 != 0)), (37, .int .i64 t_174.2), (9, .int .i64 t_174.2), (8, v_175), (6, .int .i64 c_2), (12, .int .i64 c_2), (11, .int .i64 (lenI x0)), (10, v0), (0, v0)]) S tys tys_ok 2 (by kernel_rfl) ?_
      clear S; intro a S
      refine wpList_nil ?_
      refine then_n ?_
      replace S := S.sub (l' := [(38, .bool (t_174.2 != 0)), (9, .int .i64 t_174.2), (8, v_175), (6, .int .i64 c_2), (12, .int .i64 c_2), (11, .int .i64 (lenI x0)), (10, v0), (0, v0)]) (by exact ⟨rfl, rfl, rfl, rfl, rfl, rfl, rfl, rfl, trivial⟩)
      refine wp_cond_split (S.eval (show ev _ _ = some (.bool (t_174.2 != 0)) from rfl)) ?_ ?_
      ·intro hc
       rw [if_pos hc] at hl_17
       refine wp_seq ?_
       refine wp_region_lit ?_
       refine wl_pureK (l' := [(4, .int .i64 t_174.2), (3, .int .i64 c_2), (2, .slice .none 0 0)]) S tys tys_ok 5 [4, 3, 2] (by kernel_rfl) ?_
       clear S; intro a S
       refine wpList_nil ?_
       refine then_n ?_
       refine wp_ret ?_
       refine then_r ?_
       refine blk_r ?_
       refine then_r ?_
       refine then_r ?_
       refine blk_r ?_
       refine then_r ?_
       refine then_r ?_
       obtain rfl := Option.some.inj hl_17
       obtain rfl := lr_inr h
       exact b_ret3 S rfl rfl rfl rfl ⟨_, _, _, rfl, RepV.nil, (RepV.mkInt G_3), (RepV.mkInt GR_178), W.below⟩
      ·intro hc
       rw [if_neg (Bool.eq_false_iff.1 hc)] at hl_17
       refine wp_skip ?_
       refine then_n ?_
       replace S := S.sub (l' := [(8, v_175), (12, .int .i64 c_2), (11, .int .i64 (lenI x0)), (10, v0), (0, v0)]) (by exact ⟨rfl, rfl, rfl, rfl, rfl, trivial⟩)
       refine wp_region_lit ?_
       refine wl_pure (l' := [(5, v_175), (41, v_175), (8, v_175), (12, .int .i64 c_2), (11, .int .i64 (lenI x0)), (10, v0), (0, v0)]) S tys tys_ok 2 (by kernel_rfl) ?_
       clear S; intro a S
       refine wpList_nil ?_
       refine blk_n ?_
       refine then_n ?_
       replace S := S.sub (l' := [(5, v_175), (12, .int .i64 c_2), (11, .int .i64 (lenI x0)), (10, v0), (0, v0)]) (by exact ⟨rfl, rfl, rfl, rfl, rfl, trivial⟩)
       refine wp_region_lit ?_
       obtain ⟨x_181, ex_181, hl_17⟩ := bindS hl_17
       refine w_go S rfl (op_arith S .i64 (c_2 + 1) rfl (.inl rfl) rfl rfl rfl rfl ex_181 ?_)
       clear S; intro a S
       refine wl_pure (l' := [(12, .int .i64 x_181), (42, .int .i64 x_181), (5, v_175), (12, .int .i64 c_2), (11, .int .i64 (lenI x0)), (10, v0), (0, v0)]) S tys tys_ok 1 (by kernel_rfl) ?_
       clear S; intro a S
       refine wpList_nil ?_
       refine then_n ?_
       exact ⟨x_181, t_174.1, ⟨v_175, S.sub (by exact ⟨rfl, rfl, rfl, rfl, rfl, trivial⟩), (W.drop 1), (ckI_some ex_181).2.1, (R0.drop 1), (R_177.drop 1), hl_17⟩⟩
    ·intro hc
     rw [if_neg (Bool.eq_false_iff.1 hc)] at hl_17
     refine wp_exit ?_
     refine then_x ?_
     refine then_x ?_
     refine blk_hit ?_
     refine then_n ?_
     obtain rfl := Option.some.inj hl_17
     exact ⟨_, rfl, ⟨v_5, S.sub (by exact ⟨rfl, rfl, trivial⟩), W, R0, R_6⟩⟩
 clear S W; rintro a w_182 ⟨s_13, rfl, v_14, S, W, R0, R_15⟩
 replace h := lr_inl h; try dsimp only at h
 refine then_n ?_
 refine wp_seq ?_
 refine wp_region_lit ?_
 refine wl_pure (l' := [(44, v0), (43, v_14), (0, v0), (5, v_14)]) S tys tys_ok 2 (by kernel_rfl) ?_
 clear S; intro a S
 refine w_go S rfl (op_len (K := _) S rfl ty48 rfl rfl rfl R0 ?_)
 clear S; intro a G_183 S
 refine wl_pureK (l' := [(4, .int .i64 0), (3, .int .i64 (lenI x0)), (2, v_14)]) S tys tys_ok 3 [4, 3, 2] (by kernel_rfl) ?_
 clear S; intro a S
 refine wpList_nil ?_
 refine then_n ?_
 refine wp_ret ?_
 obtain rfl := Option.some.inj h
 exact b_ret3 S rfl rfl rfl rfl ⟨_, _, _, rfl, R_15.out, (RepV.mkInt G_183), (RepV.mkInt (by decide)), W.below⟩
theorem cb19 : callB Try.prog 19 = true := by kernel_rfl
def p5_l1 (n : Nat) (x0 : Sl (Int × Int × Int × Int)) (x1 : Bool) : Nat → (Int) → (Int) → (List (Int × Int × (Sl (Int)) × Int)) → Option ((List (Int × Int × (Sl (Int)) × Int)))
 | 0, _, _, _ => .none
 | m + 1, c_7, c_9, c_11 => if (decide (c_7 < (lenI x0))) then ((idx x0.xs c_7).bind fun y_29 => (remI .u8 y_29.2.2.2 4).bind fun x_35 => (ckI .i64 (c_9 + x_35)).bind fun x_36 => (if x1 = true then (idx x0.xs c_7).bind fun y_38 => (remI .u8 y_38.2.2.2 16).bind fun x_44 => some (x_44 == 15) else some false).bind fun q_37 => (if q_37 then ((ckI .i64 (x_36 - 5)).bind fun x_48 => some x_48) else some x_36).bind fun (j_46 : (Int)) => (idx x0.xs c_7).bind fun y_50 => (p13 n y_50 j_46).bind fun t_56 => (appI c_11 ([t_56])).bind fun l_65 => (ckI .i64 (c_7 + 1)).bind fun x_70 => p5_l1 n x0 x1 m x_70 j_46 l_65) else some c_11
def p5_l2 (n : Nat) (y_21 : (List (Int × Int × (Sl (Int)) × Int))) : Nat → (Int) → (Int) → (Sl ((Sl (Int)) × Int × Int)) → Option ((Sl ((Sl (Int)) × Int × Int)) × (Int) × (Int))
 | 0, _, _, _ => .none
 | m + 1, c_86, c_88, c_90 => (if (decide (c_88 < (lenI (⟨y_21, .none⟩ : Sl (Int × Int × (Sl (Int)) × Int))))) = true then some (c_86 == 0) else some false).bind fun q_109 => if q_109 then ((idx y_21 c_88).bind fun y_110 => (p14 n c_90 y_110).bind fun t_116 => (if (decide (c_88 > 0)) = true then (idx y_21 c_88).bind fun y_125 => (ckI .i64 (c_88 - 1)).bind fun x_131 => (idx y_21 x_131).bind fun y_132 => some (decide (y_125.1 < y_132.1)) else some false).bind fun q_123 => (if q_123 then (some 1) else some t_116.2).bind fun (j_310 : (Int)) => (if (j_310 == 0) then ((ckI .i64 (c_88 + 1)).bind fun x_318 => some (x_318, (⟨t_116.1.xs, t_116.1.cap⟩ : Sl ((Sl (Int)) × Int × Int)))) else some (c_88, c_90)).bind fun (j_314 : (Int) × (Sl ((Sl (Int)) × Int × Int))) => p5_l2 n y_21 m j_310 j_314.1 j_314.2) else some (c_90, c_88, c_86)
def p5 (n : Nat) (x0 : Sl (Int × Int × Int × Int)) (x1 : Bool) : Option ((Bool)) :=
 if (decide ((lenI x0) > 40)) then ((p11 n).bind fun t_2 => some t_2) else (p5_l1 n x0 x1 n 0 100 []).bind fun (y_21 : (List (Int × Int × (Sl (Int)) × Int))) => (p5_l2 n y_21 n 0 0 (⟨[], some 0⟩)).bind fun (y_100 : (Sl ((Sl (Int)) × Int × Int)) × (Int) × (Int)) => (if (y_100.2.2 != 0) then (some (⟨[], some 0⟩)) else some y_100.1).bind fun (j_322 : (Sl ((Sl (Int)) × Int × Int))) => (p19 n (⟨y_21, .none⟩ : Sl (Int × Int × (Sl (Int)) × Int))).bind fun t_327 => (if (t_327.2.2 == y_100.2.2) = true then some (t_327.2.1 == y_100.2.1) else some false).bind fun q_336 => (if q_336 = true then (p15 n t_327.1 j_322).bind fun t_338 => some t_338 else some false).bind fun q_337 => (if q_337 = true then (p11 n).bind fun t_345 => some t_345 else some false).bind fun q_344 => some q_344
set_option maxHeartbeats 4000000 in
set_option maxRecDepth 100000 in
/-- plugboard/plugboardlaw31.EventsPlay -/
theorem c5 (K : Nat → Prop) (n : Nat) (w : World) (x0 : Sl (Int × Int × Int × Int)) (v0 : Value) (R0 : RepV (.sl gt1) w K v0 x0) (x1 : Bool) {r : (Bool)} (h : p5 n x0 x1 = some r) :
  Calls Try.prog 5 #[v0, .bool x1] w (Ret1 .bool w (Kx K w.heap.size []) r) := by
 refine enter (args := [v0, .bool x1]) Try.func5 rfl 119 rfl rfl fun a S => ?_
 have W := Wd.start w
 replace R0 := R0.arg
 unfold p5 at h
 replace S : St 119 a [(0, v0), (1, .bool x1)] := S
 refine wp_seq ?_
 refine wp_region_lit ?_
 refine wl_pure (l' := [(4, .bool false), (0, v0), (1, .bool x1)]) S tys tys_ok 1 (by kernel_rfl) ?_
 clear S; intro a S
 refine wpList_nil ?_
 refine then_n ?_
 replace S := S.sub (l' := [(0, v0), (1, .bool x1)]) (by exact ⟨rfl, rfl, trivial⟩)
 refine wp_seq ?_
 refine wp_seq ?_
 refine wp_region_lit ?_
 refine wl_pure (l' := [(16, v0), (0, v0), (1, .bool x1)]) S tys tys_ok 1 (by kernel_rfl) ?_
 clear S; intro a S
 refine w_go S rfl (op_len (K := _) S rfl ty38 rfl rfl rfl R0 ?_)
 clear S; intro a G_1 S
 refine wl_pure (l' := [(18, .bool (decide ((lenI x0) > 40))), (17, .int .i64 (lenI x0)), (16, v0), (0, v0), (1, .bool x1)]) S tys tys_ok 1 (by kernel_rfl) ?_
 clear S; intro a S
 refine wpList_nil ?_
 refine then_n ?_
 replace S := S.sub (l' := [(18, .bool (decide ((lenI x0) > 40))), (0, v0), (1, .bool x1)]) (by exact ⟨rfl, rfl, rfl, trivial⟩)
 refine wp_cond_split (S.eval (show ev _ _ = some (.bool (decide ((lenI x0) > 40))) from rfl)) ?_ ?_
 ·intro hc
  rw [if_pos hc] at h
  refine wp_seq ?_
  refine wp_region_lit ?_
  obtain ⟨t_2, et_2, h⟩ := bindS h
  refine w_go S rfl (op_call (vs := []) S rfl cb11 rfl rfl rfl (c11 (Kx K w.heap.size []) n w  et_2) ?_)
  rintro _ w_6 ⟨v_3, rfl, R_4, hb_5⟩; refine ⟨_, rfl, ?_⟩
  replace R_4 := RepV.back R_4 W
  clear S; intro a S
  replace R0 := R0.step hb_5
  replace W := W.step hb_5
  obtain rfl := RepV.bool R_4
  refine wl_pureK (l' := [(4, .bool t_2)]) S tys tys_ok 1 [4] (by kernel_rfl) ?_
  clear S; intro a S
  refine wpList_nil ?_
  refine then_n ?_
  refine wp_ret ?_
  refine then_r ?_
  obtain rfl := Option.some.inj h
  exact b_ret1 S rfl rfl ⟨_, rfl, RepV.mkBool, W.below⟩
 ·intro hc
  rw [if_neg (Bool.eq_false_iff.1 hc)] at h
  refine wp_skip ?_
  refine then_n ?_
  replace S := S.sub (l' := [(0, v0), (1, .bool x1)]) (by exact ⟨rfl, rfl, trivial⟩)
  refine wp_seq ?_
  refine wp_region_lit ?_
  refine wl_pure (l' := [(5, .slice .none 0 0), (0, v0), (1, .bool x1)]) S tys tys_ok 1 (by kernel_rfl) ?_
  clear S; intro a S
  refine wpList_nil ?_
  refine then_n ?_
  refine wp_seq ?_
  refine wp_region_lit ?_
  refine wl_pure (l' := [(6, .int .i64 100), (5, .slice .none 0 0), (0, v0), (1, .bool x1)]) S tys tys_ok 1 (by kernel_rfl) ?_
  clear S; intro a S
  refine wpList_nil ?_
  refine then_n ?_
  refine wp_seq ?_
  refine wp_seq ?_
  refine wp_region_lit ?_
  refine wl_pure (l' := [(7, .int .i64 0), (6, .int .i64 100), (5, .slice .none 0 0), (0, v0), (1, .bool x1)]) S tys tys_ok 1 (by kernel_rfl) ?_
  clear S; intro a S
  refine wpList_nil ?_
  refine then_n ?_
  obtain ⟨y_21, ey_21, h⟩ := bindS h
  refine wp_cut_ (fun a_ w_ => ∃ (v_22 : Value), St 119 a_ [(5, v_22)] ∧ Wd w w_ [v_22.ownBlock] ∧ Ow gt2 31 w_ w.heap.size (Kx K w.heap.size [v_22.ownBlock]) v_22 y_21 .none) ?_ ?_
  ·refine wp_block ?_
   refine wp_loop_n (fun m_ a_ w_ => ∃ (c_7 : Int) (c_9 : Int) (c_11 : List (Int × Int × (Sl (Int)) × Int)) , ∃ (v_12 : Value), St 119 a_ [(7, .int .i64 c_7), (6, .int .i64 c_9), (5, v_12), (0, v0), (1, .bool x1)] ∧ Wd w w_ [v_12.ownBlock] ∧ InR .i64 c_7 ∧ InR .i64 c_9 ∧ RepV (.sl gt1) w_ (Kx K w.heap.size [v_12.ownBlock]) v0 x0 ∧ Ow gt2 31 w_ w.heap.size (Kx K w.heap.size [v_12.ownBlock]) v_12 c_11 .none ∧ p5_l1 n x0 x1 m_ c_7 c_9 c_11 = some y_21) n ?_ ?_
   ·skip
    replace R0 := R0.more
    replace W := W.more
    have O_26 : Ow gt2 31 w w.heap.size (Kx K w.heap.size [.none]) (.slice .none 0 0) ([] : List (Int × Int × (Sl (Int)) × Int)) (some 0) := Ow.nil
    exact ⟨0, 100, [], ⟨(.slice .none 0 0), S.sub (by exact ⟨rfl, rfl, rfl, rfl, rfl, trivial⟩), W, (show InR .i64 0 by decide), (show InR .i64 100 by decide), R0, O_26.forget, ey_21⟩⟩
   ·clear S W; rintro m_24 a w_27 ⟨c_7, c_9, c_11, v_12, S, W, G_8, G_10, R0, O_13, hl_25⟩
    cases m_24 with
    | zero => exact absurd hl_25 (by simp [p5_l1])
    | succ m_24 =>
     refine ⟨m_24, rfl, ?_⟩
     rw [p5_l1] at hl_25
     refine wp_seq ?_
     refine wp_seq ?_
     refine wp_region_lit ?_
     refine wl_pure (l' := [(21, v0), (20, .int .i64 c_7), (7, .int .i64 c_7), (6, .int .i64 c_9), (5, v_12), (0, v0), (1, .bool x1)]) S tys tys_ok 2 (by kernel_rfl) ?_
     clear S; intro a S
     refine w_go S rfl (op_len (K := _) S rfl ty38 rfl rfl rfl R0 ?_)
     clear S; intro a G_28 S
     refine wl_pureK (l' := [(23, .bool (decide (c_7 < (lenI x0)))), (7, .int .i64 c_7), (6, .int .i64 c_9), (5, v_12), (0, v0), (1, .bool x1)]) S tys tys_ok 1 [23, 7, 6, 5, 0, 1] (by kernel_rfl) ?_
     clear S; intro a S
     refine wpList_nil ?_
     refine then_n ?_
     refine wp_cond_split (S.eval (show ev _ _ = some (.bool (decide (c_7 < (lenI x0)))) from rfl)) ?_ ?_
     ·intro hc
      rw [if_pos hc] at hl_25
      refine wp_skip ?_
      refine then_n ?_
      replace S := S.sub (l' := [(7, .int .i64 c_7), (6, .int .i64 c_9), (5, v_12), (0, v0), (1, .bool x1)]) (by exact ⟨rfl, rfl, rfl, rfl, rfl, trivial⟩)
      refine wp_seq ?_
      refine wp_block ?_
      refine wp_seq ?_
      refine wp_region_lit ?_
      refine wl_pure (l' := [(28, .int .i64 c_7), (27, v0), (26, .int .i64 c_9), (7, .int .i64 c_7), (6, .int .i64 c_9), (5, v_12), (0, v0), (1, .bool x1)]) S tys tys_ok 3 (by kernel_rfl) ?_
      clear S; intro a S
      obtain ⟨y_29, ey_29, hl_25⟩ := bindS hl_25
      refine w_go S rfl (op_indexAddr S rfl ty38 rfl rfl rfl R0 rfl ey_29 ?_)
      clear S; intro a p_30 R_31 H_32 S
      refine wl_pureK (l' := [(30, .pointer (some (p_30.add (coff gf1 3)))), (26, .int .i64 c_9), (7, .int .i64 c_7), (6, .int .i64 c_9), (5, v_12), (0, v0), (1, .bool x1)]) S tys tys_ok 1 [30, 26, 7, 6, 5, 0, 1] (by kernel_rfl) ?_
      clear S; intro a S
      refine w_go S rfl (op_load (t := (.int .u8)) (x := y_29.2.2.2) S rfl ty5 rfl rfl rfl (RepAt.add 3 (RepAt.st (t := gf1) R_31)) ?_)
      clear S; intro a v_33 R_34 S
      obtain ⟨rfl, GR_34⟩ := RepV.int R_34
      obtain ⟨x_35, ex_35, hl_25⟩ := bindS hl_25
      refine w_go S rfl (op_rem S .u8 rfl rfl rfl rfl rfl ex_35 ?_)
      clear S; intro a S
      refine w_go S rfl (op_conv S .i64 .bool .bool rfl ty5 ty3 rfl rfl rfl (widen (inR_rem ex_35) (by decide)).1 ?_)
      clear S; intro a S
      obtain ⟨x_36, ex_36, hl_25⟩ := bindS hl_25
      refine w_go S rfl (op_arith S .i64 (c_9 + x_35) rfl (.inl rfl) rfl rfl rfl rfl ex_36 ?_)
      clear S; intro a S
      refine wl_pureK (l' := [(6, .int .i64 x_36), (7, .int .i64 c_7), (6, .int .i64 c_9), (5, v_12), (0, v0), (1, .bool x1)]) S tys tys_ok 1 [6, 7, 5, 0, 1] (by kernel_rfl) ?_
      clear S; intro a S
      refine wpList_nil ?_
      refine then_n ?_
      refine wp_seq ?_
      refine wp_seq ?_
      refine wp_region_lit ?_
      refine wl_pure (l' := [(36, .bool x1), (35, .bool x1), (6, .int .i64 x_36), (7, .int .i64 c_7), (6, .int .i64 c_9), (5, v_12), (0, v0), (1, .bool x1)]) S tys tys_ok 2 (by kernel_rfl) ?_
      clear S; intro a S
      obtain ⟨q_37, eq_37, hl_25⟩ := bindS hl_25
      refine seg 8 (fun a_ w_ => w_27 = w_ ∧ St 119 a_ [(44, .bool q_37), (6, .int .i64 x_36), (7, .int .i64 c_7), (5, v_12), (0, v0), (1, .bool x1)]) ?_ ?_
      ·by_cases hc : x1 = true
       ·rw [if_pos hc] at eq_37; rw [hc] at S
        refine wl_pure (l' := [(38, .int .i64 c_7), (37, v0), (36, .bool true), (35, .bool true), (6, .int .i64 x_36), (7, .int .i64 c_7), (6, .int .i64 c_9), (5, v_12), (0, v0), (1, .bool true)]) S tys tys_ok 2 (by kernel_rfl) ?_
        clear S; intro a S
        obtain ⟨y_38, ey_38, eq_37⟩ := bindS eq_37
        refine w_go S rfl (op_indexAddr S rfl ty38 rfl rfl rfl R0 rfl ey_38 ?_)
        clear S; intro a p_39 R_40 H_41 S
        refine wl_pure (l' := [(40, .pointer (some (p_39.add (coff gf1 3)))), (39, .pointer (some p_39)), (38, .int .i64 c_7), (37, v0), (36, .bool true), (35, .bool true), (6, .int .i64 x_36), (7, .int .i64 c_7), (6, .int .i64 c_9), (5, v_12), (0, v0), (1, .bool true)]) S tys tys_ok 1 (by kernel_rfl) ?_
        clear S; intro a S
        refine w_go S rfl (op_load (t := (.int .u8)) (x := y_38.2.2.2) S rfl ty5 rfl rfl rfl (RepAt.add 3 (RepAt.st (t := gf1) R_40)) ?_)
        clear S; intro a v_42 R_43 S
        obtain ⟨rfl, GR_43⟩ := RepV.int R_43
        obtain ⟨x_44, ex_44, eq_37⟩ := bindS eq_37
        refine w_go S rfl (op_rem S .u8 rfl rfl rfl rfl rfl ex_44 ?_)
        clear S; intro a S
        refine wl_pure (l' := [(44, .bool (x_44 == 15)), (43, .bool (x_44 == 15)), (42, .int .u8 x_44), (41, .int .u8 y_38.2.2.2), (40, .pointer (some (p_39.add (coff gf1 3)))), (39, .pointer (some p_39)), (38, .int .i64 c_7), (37, v0), (36, .bool true), (35, .bool true), (6, .int .i64 x_36), (7, .int .i64 c_7), (6, .int .i64 c_9), (5, v_12), (0, v0), (1, .bool true)]) S tys tys_ok 2 (by kernel_rfl) ?_
        clear S; intro a S
        obtain rfl := Option.some.inj eq_37
        exact ⟨rfl, S.sub (by exact ⟨rfl, rfl, rfl, rfl, rfl, (by rw [show x1 = true from hc]; rfl), trivial⟩)⟩
       ·rw [if_neg hc] at eq_37; rw [show x1 = false from Bool.eq_false_iff.2 hc] at S
        refine wl_pure (l' := [(44, .bool false), (43, undef), (42, undef), (41, undef), (40, undef), (39, undef), (38, undef), (37, undef), (36, .bool false), (35, .bool false), (6, .int .i64 x_36), (7, .int .i64 c_7), (6, .int .i64 c_9), (5, v_12), (0, v0), (1, .bool false)]) S tys tys_ok 8 (by kernel_rfl) ?_
        clear S; intro a S
        obtain rfl := Option.some.inj eq_37
        exact ⟨rfl, S.sub (by exact ⟨rfl, rfl, rfl, rfl, rfl, (by rw [show x1 = false from Bool.eq_false_iff.2 hc]; rfl), trivial⟩)⟩
      clear S eq_37; rintro a _ ⟨rfl, S⟩
      refine wpList_nil ?_
      refine then_n ?_
      obtain ⟨j_46, ej_46, hl_25⟩ := bindS hl_25
      refine wp_cut_ (fun a_ w_ => St 119 a_ [(6, .int .i64 j_46), (7, .int .i64 c_7), (5, v_12), (0, v0), (1, .bool x1)] ∧ Wd w w_ [v_12.ownBlock] ∧ InR .i64 j_46 ∧ RepV (.sl gt1) w_ (Kx K w.heap.size [v_12.ownBlock]) v0 x0 ∧ Ow gt2 31 w_ w.heap.size (Kx K w.heap.size [v_12.ownBlock]) v_12 c_11 .none) ?_ ?_
      ·refine wp_cond_split (S.eval (show ev _ _ = some (.bool q_37) from rfl)) ?_ ?_
       ·intro hc
        rw [if_pos hc] at ej_46
        refine wp_region_lit ?_
        refine wl_pure (l' := [(45, .int .i64 x_36), (44, .bool q_37), (6, .int .i64 x_36), (7, .int .i64 c_7), (5, v_12), (0, v0), (1, .bool x1)]) S tys tys_ok 1 (by kernel_rfl) ?_
        clear S; intro a S
        obtain ⟨x_48, ex_48, ej_46⟩ := bindS ej_46
        refine w_go S rfl (op_arith S .i64 (x_36 - 5) rfl (.inr (.inl rfl)) rfl rfl rfl rfl ex_48 ?_)
        clear S; intro a S
        refine wl_pureK (l' := [(6, .int .i64 x_48), (6, .int .i64 x_36), (7, .int .i64 c_7), (5, v_12), (0, v0), (1, .bool x1)]) S tys tys_ok 1 [6, 7, 5, 0, 1] (by kernel_rfl) ?_
        clear S; intro a S
        refine wpList_nil ?_
        refine then_n ?_
        obtain rfl := Option.some.inj ej_46
        exact ⟨S.sub (by exact ⟨rfl, rfl, rfl, rfl, rfl, trivial⟩), W, (ckI_some ex_48).2.1, R0, O_13⟩
       ·intro hc
        rw [if_neg (Bool.eq_false_iff.1 hc)] at ej_46
        refine wp_skip ?_
        refine then_n ?_
        obtain rfl := Option.some.inj ej_46
        exact ⟨S.sub (by exact ⟨rfl, rfl, rfl, rfl, rfl, trivial⟩), W, (ckI_some ex_36).2.1, R0, O_13⟩
      clear S W; rintro a w_49 ⟨S, W, G_47, R0, O_13⟩
      refine then_n ?_
      refine wp_region_lit ?_
      refine wl_pure (l' := [(49, .int .i64 c_7), (48, v0), (47, v_12), (6, .int .i64 j_46), (7, .int .i64 c_7), (5, v_12), (0, v0), (1, .bool x1)]) S tys tys_ok 3 (by kernel_rfl) ?_
      clear S; intro a S
      obtain ⟨y_50, ey_50, hl_25⟩ := bindS hl_25
      refine w_go S rfl (op_indexAddr S rfl ty38 rfl rfl rfl R0 rfl ey_50 ?_)
      clear S; intro a p_51 R_52 H_53 S
      refine w_go S rfl (op_load (t := gt1) (x := y_50) S rfl ty40 rfl rfl rfl R_52 ?_)
      clear S; intro a v_54 R_55 S
      refine wl_pureK (l' := [(52, .int .i64 j_46), (51, v_54), (47, v_12), (6, .int .i64 j_46), (7, .int .i64 c_7), (5, v_12), (0, v0), (1, .bool x1)]) S tys tys_ok 1 [52, 51, 47, 6, 7, 5, 0, 1] (by kernel_rfl) ?_
      clear S; intro a S
      obtain ⟨t_56, et_56, hl_25⟩ := bindS hl_25
      refine w_go S rfl (op_call (vs := [v_54, .int .i64 j_46]) S rfl cb13 rfl rfl rfl (c13 (Kx K w.heap.size [v_12.ownBlock]) n w_49 y_50 _ R_55 j_46 G_47 et_56) ?_)
      rintro _ w_60 ⟨v_57, rfl, R_58, hb_59⟩; refine ⟨_, rfl, ?_⟩
      replace R_58 := RepV.back R_58 W
      clear S; intro a S
      replace R0 := R0.step hb_59
      replace R_55 := R_55.step hb_59
      replace O_13 := O_13.step hb_59
      replace W := W.step hb_59
      refine w_go S rfl (op_buildSlice (K := K) (e := gt2) (vs := [v_57]) (xs := [t_56]) S W rfl ty48 rfl rfl (by kernel_rfl) rfl rfl rfl rfl rfl ⟨R_58, trivial⟩ ?_)
      clear S; intro a w_64 v_61 hb_63 R_62 S
      replace R0 := R0.step hb_63
      replace R_55 := R_55.step hb_63
      replace R_58 := R_58.step hb_63
      replace O_13 := O_13.step hb_63
      replace W := W.step hb_63
      obtain ⟨l_65, el_65, hl_25⟩ := bindS hl_25
      refine w_go S rfl (op_append S W (E := 31) 0 rfl ty48 un48 by48 rfl rfl rfl rfl O_13 rfl R_62 el_65 ?_)
      clear S; intro a w_67 v_66 A_68 O_69 S
      replace R0 : RepV (.sl gt1) w_67 (Kx K w.heap.size [v_66.ownBlock]) v0 x0 := R0.apd A_68 (i := 0) rfl
      replace R_55 : RepV gt1 w_67 (Kx K w.heap.size [v_66.ownBlock]) v_54 y_50 := R_55.apd A_68 (i := 0) rfl
      replace R_58 : RepV gt2 w_67 (Kx K w.heap.size [v_66.ownBlock]) v_57 t_56 := R_58.apd A_68 (i := 0) rfl
      replace R_62 : RepV (.sl gt2) w_67 (Kx K w.heap.size [v_66.ownBlock]) v_61 (⟨[t_56], some 1⟩ : Sl (Int × Int × (Sl (Int)) × Int)) := R_62.apd A_68 (i := 0) rfl
      replace W : Wd w w_67 [v_66.ownBlock] := W.apd A_68 (i := 0) rfl
      replace O_69 : Ow gt2 31 w_67 w.heap.size (Kx K w.heap.size [v_66.ownBlock]) v_66 l_65 (capA .none l_65.length) := O_69
      refine wl_pureK (l' := [(5, v_66), (6, .int .i64 j_46), (7, .int .i64 c_7), (5, v_12), (0, v0), (1, .bool x1)]) S tys tys_ok 1 [5, 6, 7, 0, 1] (by kernel_rfl) ?_
      clear S; intro a S
      refine wpList_nil ?_
      refine blk_n ?_
      refine then_n ?_
      refine wp_region_lit ?_
      refine wl_pure (l' := [(24, .int .i64 c_7), (5, v_66), (6, .int .i64 j_46), (7, .int .i64 c_7), (5, v_12), (0, v0), (1, .bool x1)]) S tys tys_ok 1 (by kernel_rfl) ?_
      clear S; intro a S
      obtain ⟨x_70, ex_70, hl_25⟩ := bindS hl_25
      refine w_go S rfl (op_arith S .i64 (c_7 + 1) rfl (.inl rfl) rfl rfl rfl rfl ex_70 ?_)
      clear S; intro a S
      refine wl_pure (l' := [(7, .int .i64 x_70), (25, .int .i64 x_70), (24, .int .i64 c_7), (5, v_66), (6, .int .i64 j_46), (7, .int .i64 c_7), (5, v_12), (0, v0), (1, .bool x1)]) S tys tys_ok 1 (by kernel_rfl) ?_
      clear S; intro a S
      refine wpList_nil ?_
      refine then_n ?_
      exact ⟨x_70, j_46, l_65, ⟨v_66, S.sub (by exact ⟨rfl, rfl, rfl, rfl, rfl, trivial⟩), W, (ckI_some ex_70).2.1, G_47, R0, O_69.forget, hl_25⟩⟩
     ·intro hc
      rw [if_neg (Bool.eq_false_iff.1 hc)] at hl_25
      refine wp_exit ?_
      refine then_x ?_
      refine then_x ?_
      refine blk_hit ?_
      refine then_n ?_
      obtain rfl := Option.some.inj hl_25
      exact ⟨v_12, S.sub (by exact ⟨rfl, trivial⟩), W, O_13⟩
  clear S W; rintro a w_71 ⟨v_22, S, W, O_23⟩
  refine then_n ?_
  refine wp_seq ?_
  refine wp_region_lit ?_
  refine wl_pure (l' := [(8, .slice .none 0 0), (5, v_22)]) S tys tys_ok 1 (by kernel_rfl) ?_
  clear S; intro a S
  refine wpList_nil ?_
  refine then_n ?_
  refine wp_seq ?_
  refine wp_region_lit ?_
  refine wl_pure (l' := [(10, .int .i64 0), (9, .int .i64 0), (8, .slice .none 0 0), (5, v_22)]) S tys tys_ok 2 (by kernel_rfl) ?_
  clear S; intro a S
  refine wpList_nil ?_
  refine then_n ?_
  refine wp_seq ?_
  obtain ⟨y_100, ey_100, h⟩ := bindS h
  refine wp_cut_ (fun a_ w_ => ∃ (v_101 : Value), St 119 a_ [(5, v_22), (8, v_101), (9, .int .i64 y_100.2.1), (10, .int .i64 y_100.2.2)] ∧ Wd w w_ [v_22.ownBlock] ∧ InR .i64 y_100.2.1 ∧ InR .i64 y_100.2.2 ∧ RepV (.sl gt0) w_ (Kx K w.heap.size [v_22.ownBlock]) v_101 y_100.1 ∧ Ow gt2 31 w_ w.heap.size (Kx K w.heap.size [v_22.ownBlock]) v_22 y_21 .none) ?_ ?_
  ·refine wp_block ?_
   refine wp_loop_n (fun m_ a_ w_ => ∃ (c_86 : Int) (c_88 : Int) (c_90 : Sl ((Sl (Int)) × Int × Int)) , ∃ (v_91 : Value), St 119 a_ [(10, .int .i64 c_86), (9, .int .i64 c_88), (8, v_91), (5, v_22)] ∧ Wd w w_ [v_22.ownBlock] ∧ InR .i64 c_86 ∧ InR .i64 c_88 ∧ RepV (.sl gt0) w_ (Kx K w.heap.size [v_22.ownBlock]) v_91 c_90 ∧ Ow gt2 31 w_ w.heap.size (Kx K w.heap.size [v_22.ownBlock]) v_22 y_21 .none ∧ p5_l2 n y_21 m_ c_86 c_88 c_90 = some y_100) n ?_ ?_
   ·skip
    exact ⟨0, 0, ⟨[], some 0⟩, ⟨.slice .none 0 0, S.sub (by exact ⟨rfl, rfl, rfl, rfl, trivial⟩), W, (show InR .i64 0 by decide), (show InR .i64 0 by decide), RepV.nil, O_23, ey_100⟩⟩
   ·clear S W; rintro m_105 a w_107 ⟨c_86, c_88, c_90, v_91, S, W, G_87, G_89, R_92, O_23, hl_106⟩
    cases m_105 with
    | zero => exact absurd hl_106 (by simp [p5_l2])
    | succ m_105 =>
     refine ⟨m_105, rfl, ?_⟩
     rw [p5_l2] at hl_106
     refine wp_seq ?_
     refine wp_seq ?_
     refine wp_region_lit ?_
     refine wl_pure (l' := [(57, v_22), (56, .int .i64 c_88), (10, .int .i64 c_86), (9, .int .i64 c_88), (8, v_91), (5, v_22)]) S tys tys_ok 2 (by kernel_rfl) ?_
     clear S; intro a S
     refine w_go S rfl (op_len (K := _) S rfl ty48 rfl rfl rfl O_23.read ?_)
     clear S; intro a G_108 S
     refine wl_pureK (l' := [(60, .bool (decide (c_88 < (lenI (⟨y_21, .none⟩ : Sl (Int × Int × (Sl (Int)) × Int)))))), (10, .int .i64 c_86), (9, .int .i64 c_88), (8, v_91), (5, v_22)]) S tys tys_ok 2 [60, 10, 9, 8, 5] (by kernel_rfl) ?_
     clear S; intro a S
     obtain ⟨q_109, eq_109, hl_106⟩ := bindS hl_106
     refine seg 3 (fun a_ w_ => w_107 = w_ ∧ St 119 a_ [(63, .bool q_109), (10, .int .i64 c_86), (9, .int .i64 c_88), (8, v_91), (5, v_22)]) ?_ ?_
     ·by_cases hc : (decide (c_88 < (lenI (⟨y_21, .none⟩ : Sl (Int × Int × (Sl (Int)) × Int))))) = true
      ·rw [if_pos hc] at eq_109; rw [hc] at S
       refine wl_pure (l' := [(63, .bool (c_86 == 0)), (62, .bool (c_86 == 0)), (61, .int .i64 c_86), (60, .bool true), (10, .int .i64 c_86), (9, .int .i64 c_88), (8, v_91), (5, v_22)]) S tys tys_ok 3 (by kernel_rfl) ?_
       clear S; intro a S
       obtain rfl := Option.some.inj eq_109
       exact ⟨rfl, S.sub (by exact ⟨rfl, rfl, rfl, rfl, rfl, trivial⟩)⟩
      ·rw [if_neg hc] at eq_109; rw [show (decide (c_88 < (lenI (⟨y_21, .none⟩ : Sl (Int × Int × (Sl (Int)) × Int))))) = false from Bool.eq_false_iff.2 hc] at S
       refine wl_pure (l' := [(63, .bool false), (62, undef), (61, undef), (60, .bool false), (10, .int .i64 c_86), (9, .int .i64 c_88), (8, v_91), (5, v_22)]) S tys tys_ok 3 (by kernel_rfl) ?_
       clear S; intro a S
       obtain rfl := Option.some.inj eq_109
       exact ⟨rfl, S.sub (by exact ⟨rfl, rfl, rfl, rfl, rfl, trivial⟩)⟩
     clear S eq_109; rintro a _ ⟨rfl, S⟩
     refine wpList_nil ?_
     refine then_n ?_
     refine wp_cond_split (S.eval (show ev _ _ = some (.bool q_109) from rfl)) ?_ ?_
     ·intro hc
      rw [if_pos hc] at hl_106
      refine wp_skip ?_
      refine then_n ?_
      replace S := S.sub (l' := [(9, .int .i64 c_88), (8, v_91), (5, v_22)]) (by exact ⟨rfl, rfl, rfl, trivial⟩)
      refine wp_block ?_
      refine wp_seq ?_
      refine wp_region_lit ?_
      refine wl_pure (l' := [(67, .int .i64 c_88), (66, v_22), (65, v_91), (9, .int .i64 c_88), (8, v_91), (5, v_22)]) S tys tys_ok 3 (by kernel_rfl) ?_
      clear S; intro a S
      obtain ⟨y_110, ey_110, hl_106⟩ := bindS hl_106
      refine w_go S rfl (op_indexAddr_own S rfl ty48 rfl rfl rfl O_23 rfl ey_110 ?_)
      clear S; intro a g_111 H_113 R_112 S
      refine w_go S rfl (op_load (t := gt2) (x := y_110) S rfl ty31 rfl rfl rfl R_112 ?_)
      clear S; intro a v_114 R_115 S
      obtain ⟨t_116, et_116, hl_106⟩ := bindS hl_106
      refine w_go S rfl (op_call (vs := [v_91, v_114]) S rfl cb14 rfl rfl rfl (c14 (Kx K w.heap.size [v_22.ownBlock]) n w_107 c_90 _ R_92 y_110 _ R_115 et_116) ?_)
      rintro _ w_122 ⟨v_117, v_118, rfl, R_119, R_120, hb_121⟩; refine ⟨_, rfl, ?_⟩
      have NO_ := newO_of R_119 (Nat.le_refl _) hb_121
      replace R_119 := Ow.backO R_119 W
      replace R_120 := RepV.backO R_120 W
      clear S; intro a S
      replace R_92 := R_92.newO NO_
      replace R_115 := R_115.newO NO_
      replace O_23 := O_23.newO NO_
      replace W := W.newO NO_
      clear NO_
      obtain ⟨rfl, GR_120⟩ := RepV.int R_120
      refine wl_pureK (l' := [(12, .int .i64 t_116.2), (11, v_117), (9, .int .i64 c_88), (8, v_91), (5, v_22)]) S tys tys_ok 5 [12, 11, 9, 8, 5] (by kernel_rfl) ?_
      clear S; intro a S
      refine wpList_nil ?_
      refine then_n ?_
      refine wp_seq ?_
      refine wp_seq ?_
      obtain ⟨q_123, eq_123, hl_106⟩ := bindS hl_106
      obtain ⟨y_125, x_131, y_132, HG_124⟩ : ∃ (y_125 : Int × Int × (Sl (Int)) × Int) (x_131 : Int) (y_132 : Int × Int × (Sl (Int)) × Int) , ((decide (c_88 > 0)) = true → (idx y_21 c_88) = some y_125 ∧ (ckI .i64 (c_88 - 1)) = some x_131 ∧ (idx y_21 x_131) = some y_132 ∧ (decide (y_125.1 < y_132.1)) = q_123) ∧ (¬ (decide (c_88 > 0)) = true → false = q_123) := by
       by_cases hc : (decide (c_88 > 0)) = true
       ·rw [if_pos hc] at eq_123
        obtain ⟨y_125, ey_125, eq_123⟩ := bindS eq_123
        obtain ⟨x_131, ex_131, eq_123⟩ := bindS eq_123
        obtain ⟨y_132, ey_132, eq_123⟩ := bindS eq_123
        exact ⟨y_125, x_131, y_132, ⟨fun _ => ⟨ey_125, ex_131, ey_132, Option.some.inj eq_123⟩, fun k_ => absurd hc k_⟩⟩
       ·rw [if_neg hc] at eq_123
        exact ⟨default, default, default, ⟨fun k_ => absurd k_ hc, fun _ => Option.some.inj eq_123⟩⟩
      have hR : Rel (Kx K w.heap.size [v_117.ownBlock, v_22.ownBlock]) Bl := Bl.rel _
      refine wp_region_all hR [isI .i64 c_88, eqv (.bool (decide (c_88 > 0))), eqv (.bool (decide (c_88 > 0))), cndF (decide (c_88 > 0)) true (eqv (v_22)), cndF (decide (c_88 > 0)) true (isI .i64 c_88), cndF (decide (c_88 > 0)) true (isEo gt2 (Kx K w.heap.size [v_117.ownBlock, v_22.ownBlock]) y_125), cndF (decide (c_88 > 0)) true (isEo (.int .i64) (Kx K w.heap.size [v_117.ownBlock, v_22.ownBlock]) y_125.1), cndF (decide (c_88 > 0)) true (isI .i64 y_125.1), cndF (decide (c_88 > 0)) true (eqv (v_22)), cndF (decide (c_88 > 0)) true (isI .i64 c_88), cndF (decide (c_88 > 0)) true (isI .i64 x_131), cndF (decide (c_88 > 0)) true (isEo gt2 (Kx K w.heap.size [v_117.ownBlock, v_22.ownBlock]) y_132), cndF (decide (c_88 > 0)) true (isEo (.int .i64) (Kx K w.heap.size [v_117.ownBlock, v_22.ownBlock]) y_132.1), cndF (decide (c_88 > 0)) true (isI .i64 y_132.1), cndF (decide (c_88 > 0)) true (eqv (.bool (decide (y_125.1 < y_132.1)))), eqv (.bool q_123)] [[], [(0, 73)], [(1, 74)], [(2, 75)], [(2, 75)], [(3, 76), (4, 77), (2, 75)], [(5, 78), (2, 75)], [(6, 79), (2, 75)], [(2, 75)], [(2, 75)], [(9, 82), (2, 75)], [(8, 81), (10, 83), (2, 75)], [(11, 84), (2, 75)], [(12, 85), (2, 75)], [(7, 80), (13, 86), (2, 75)], [(2, 75), (14, 87)]] (by kernel_rfl) (by rw [S.size]; kernel_rfl) (by kernel_rfl) (by kernel_rfl) rfl ⟨stab_I, (stab_eqv _), (stab_eqv _), (stab_cnd (stab_eqv _)), (stab_cnd stab_I), (stab_cnd stab_eo), (stab_cnd stab_eo), (stab_cnd stab_I), (stab_cnd (stab_eqv _)), (stab_cnd stab_I), (stab_cnd stab_I), (stab_cnd stab_eo), (stab_cnd stab_eo), (stab_cnd stab_I), (stab_cnd (stab_eqv _)), (stab_eqv _), trivial⟩ ?_ ?_
      ·
       refine RunAll.cons (isI .i64 c_88) [] rfl rfl ?_ ?_
       ·intro W_ hW
        have S1 := S
        exact RPost.one (v := .int .i64 c_88) S1 tys tys_ok rfl (by kernel_rfl) S.defers ⟨rfl, G_89⟩ (Below.refl _ _)
       refine RunAll.cons (eqv (.bool (decide (c_88 > 0)))) [(isI .i64 c_88, 73)] rfl rfl ?_ ?_
       ·intro W_ hW
        have S1 := S
        rintro _ ⟨rfl, hF_138⟩
        replace S1 := S1.put (by decide : 73 < 119) (.int .i64 c_88)
        exact RPost.one (v := .bool (decide (c_88 > 0))) S1 tys tys_ok rfl (by kernel_rfl) S.defers rfl (Below.refl _ _)
       refine RunAll.cons (eqv (.bool (decide (c_88 > 0)))) [(eqv (.bool (decide (c_88 > 0))), 74)] rfl rfl ?_ ?_
       ·intro W_ hW
        have S1 := S
        intro v_141 hF_140; obtain rfl : .bool (decide (c_88 > 0)) = v_141 := Eq.symm hF_140
        replace S1 := S1.put (by decide : 74 < 119) (.bool (decide (c_88 > 0)))
        exact RPost.one (v := .bool (decide (c_88 > 0))) S1 tys tys_ok rfl (by kernel_rfl) S.defers rfl (Below.refl _ _)
       refine RunAll.cons (cndF (decide (c_88 > 0)) true (eqv (v_22))) [(eqv (.bool (decide (c_88 > 0))), 75)] rfl rfl ?_ ?_
       ·intro W_ hW
        by_cases hc0 : (decide (c_88 > 0)) = true
        ·have hl0 : (decide (c_88 > 0)) = true := hc0
         have S1 := S
         intro v_143 hF_142; obtain rfl : .bool (decide (c_88 > 0)) = v_143 := Eq.symm hF_142
         replace S1 := S1.put (by decide : 75 < 119) (.bool (decide (c_88 > 0)))
         refine fill_nil S1 ?_; clear S1; intro a_ S1
         replace O_23 := O_23.step hW
         rw [show (decide (c_88 > 0)) = true from hl0] at S1
         exact RPost.one (v := v_22) S1 tys tys_ok rfl (by kernel_rfl) S.defers ⟨fun _ => rfl, fun k_ => absurd hc0 k_⟩ (Below.refl _ _)
        ·have hl0 : (decide (c_88 > 0)) = false := Bool.eq_false_iff.2 hc0
         have S1 := S
         intro v_145 hF_144; obtain rfl : .bool (decide (c_88 > 0)) = v_145 := Eq.symm hF_144
         replace S1 := S1.put (by decide : 75 < 119) (.bool (decide (c_88 > 0)))
         refine fill_nil S1 ?_; clear S1; intro a_ S1
         rw [show (decide (c_88 > 0)) = false from hl0] at S1
         exact RPost.one (v := undef) S1 tys tys_ok rfl (by kernel_rfl) S.defers ⟨fun k_ => absurd k_ hc0, fun _ => rfl⟩ (Below.refl _ _)
       refine RunAll.cons (cndF (decide (c_88 > 0)) true (isI .i64 c_88)) [(eqv (.bool (decide (c_88 > 0))), 75)] rfl rfl ?_ ?_
       ·intro W_ hW
        by_cases hc0 : (decide (c_88 > 0)) = true
        ·have hl0 : (decide (c_88 > 0)) = true := hc0
         have S1 := S
         intro v_147 hF_146; obtain rfl : .bool (decide (c_88 > 0)) = v_147 := Eq.symm hF_146
         replace S1 := S1.put (by decide : 75 < 119) (.bool (decide (c_88 > 0)))
         refine fill_nil S1 ?_; clear S1; intro a_ S1
         rw [show (decide (c_88 > 0)) = true from hl0] at S1
         exact RPost.one (v := .int .i64 c_88) S1 tys tys_ok rfl (by kernel_rfl) S.defers ⟨fun _ => ⟨rfl, G_89⟩, fun k_ => absurd hc0 k_⟩ (Below.refl _ _)
        ·have hl0 : (decide (c_88 > 0)) = false := Bool.eq_false_iff.2 hc0
         have S1 := S
         intro v_149 hF_148; obtain rfl : .bool (decide (c_88 > 0)) = v_149 := Eq.symm hF_148
         replace S1 := S1.put (by decide : 75 < 119) (.bool (decide (c_88 > 0)))
         refine fill_nil S1 ?_; clear S1; intro a_ S1
         rw [show (decide (c_88 > 0)) = false from hl0] at S1
         exact RPost.one (v := undef) S1 tys tys_ok rfl (by kernel_rfl) S.defers ⟨fun k_ => absurd k_ hc0, fun _ => rfl⟩ (Below.refl _ _)
       refine RunAll.cons (cndF (decide (c_88 > 0)) true (isEo gt2 (Kx K w.heap.size [v_117.ownBlock, v_22.ownBlock]) y_125)) [(cndF (decide (c_88 > 0)) true (eqv (v_22)), 76), (cndF (decide (c_88 > 0)) true (isI .i64 c_88), 77), (eqv (.bool (decide (c_88 > 0))), 75)] rfl rfl ?_ ?_
       ·intro W_ hW
        by_cases hc0 : (decide (c_88 > 0)) = true
        ·have hl0 : (decide (c_88 > 0)) = true := hc0
         have S1 := S
         intro v_150 hF_151
         replace hF_151 := cndF.pos hF_151 hc0
         revert hF_151
         revert v_150
         intro v_153 hF_152; obtain rfl : v_22 = v_153 := Eq.symm hF_152
         replace S1 := S1.put (by decide : 76 < 119) (v_22)
         intro v_154 hF_155
         replace hF_155 := cndF.pos hF_155 hc0
         revert hF_155
         revert v_154
         rintro _ ⟨rfl, hF_156⟩
         replace S1 := S1.put (by decide : 77 < 119) (.int .i64 c_88)
         intro v_159 hF_158; obtain rfl : .bool (decide (c_88 > 0)) = v_159 := Eq.symm hF_158
         replace S1 := S1.put (by decide : 75 < 119) (.bool (decide (c_88 > 0)))
         refine fill_nil S1 ?_; clear S1; intro a_ S1
         replace O_23 := O_23.step hW
         replace W := W.step hW
         rw [show (decide (c_88 > 0)) = true from hl0] at S1
         have S0 := S.defers; replace S := S1; clear S1
         obtain ⟨ey_125, ex_131, ey_132, _⟩ := (HG_124).1 hc0
         refine w_go S rfl (op_indexAddr_own S rfl ty48 rfl rfl rfl O_23 rfl ey_125 ?_)
         clear S; intro a g_160 H_162 R_161 S
         refine wpList_nil ?_
         exact RPost.mk_ S rfl S0 ⟨fun _ => ⟨_, rfl, R_161, W.ownlt (o := v_22.ownBlock) (List.mem_of_getElem? (i := 1) rfl) H_162⟩, fun k_ => absurd hc0 k_⟩ (Below.refl _ _)
        ·have hl0 : (decide (c_88 > 0)) = false := Bool.eq_false_iff.2 hc0
         have S1 := S
         intro v_163 hF_164
         obtain rfl := cndF.neg hF_164 hc0
         replace S1 := S1.put (by decide : 76 < 119) (undef)
         intro v_165 hF_166
         obtain rfl := cndF.neg hF_166 hc0
         replace S1 := S1.put (by decide : 77 < 119) (undef)
         intro v_168 hF_167; obtain rfl : .bool (decide (c_88 > 0)) = v_168 := Eq.symm hF_167
         replace S1 := S1.put (by decide : 75 < 119) (.bool (decide (c_88 > 0)))
         refine fill_nil S1 ?_; clear S1; intro a_ S1
         rw [show (decide (c_88 > 0)) = false from hl0] at S1
         exact RPost.one (v := undef) S1 tys tys_ok rfl (by kernel_rfl) S.defers ⟨fun k_ => absurd k_ hc0, fun _ => rfl⟩ (Below.refl _ _)
       refine RunAll.cons (cndF (decide (c_88 > 0)) true (isEo (.int .i64) (Kx K w.heap.size [v_117.ownBlock, v_22.ownBlock]) y_125.1)) [(cndF (decide (c_88 > 0)) true (isEo gt2 (Kx K w.heap.size [v_117.ownBlock, v_22.ownBlock]) y_125), 78), (eqv (.bool (decide (c_88 > 0))), 75)] rfl rfl ?_ ?_
       ·intro W_ hW
        by_cases hc0 : (decide (c_88 > 0)) = true
        ·have hl0 : (decide (c_88 > 0)) = true := hc0
         have S1 := S
         intro v_169 hF_170
         replace hF_170 := cndF.pos hF_170 hc0
         revert hF_170
         revert v_169
         rintro _ ⟨p_173, rfl, R_174, H_175⟩
         replace S1 := S1.put (by decide : 78 < 119) (.pointer (some p_173))
         intro v_177 hF_176; obtain rfl : .bool (decide (c_88 > 0)) = v_177 := Eq.symm hF_176
         replace S1 := S1.put (by decide : 75 < 119) (.bool (decide (c_88 > 0)))
         refine fill_nil S1 ?_; clear S1; intro a_ S1
         rw [show (decide (c_88 > 0)) = true from hl0] at S1
         exact RPost.one (v := .pointer (some (p_173.add (coff gf2 0)))) S1 tys tys_ok rfl (by kernel_rfl) S.defers ⟨fun _ => ⟨_, rfl, (RepAt.add 0 (RepAt.st (t := gf2) R_174)), (by simpa [Addr.add] using H_175)⟩, fun k_ => absurd hc0 k_⟩ (Below.refl _ _)
        ·have hl0 : (decide (c_88 > 0)) = false := Bool.eq_false_iff.2 hc0
         have S1 := S
         intro v_178 hF_179
         obtain rfl := cndF.neg hF_179 hc0
         replace S1 := S1.put (by decide : 78 < 119) (undef)
         intro v_181 hF_180; obtain rfl : .bool (decide (c_88 > 0)) = v_181 := Eq.symm hF_180
         replace S1 := S1.put (by decide : 75 < 119) (.bool (decide (c_88 > 0)))
         refine fill_nil S1 ?_; clear S1; intro a_ S1
         rw [show (decide (c_88 > 0)) = false from hl0] at S1
         exact RPost.one (v := undef) S1 tys tys_ok rfl (by kernel_rfl) S.defers ⟨fun k_ => absurd k_ hc0, fun _ => rfl⟩ (Below.refl _ _)
       refine RunAll.cons (cndF (decide (c_88 > 0)) true (isI .i64 y_125.1)) [(cndF (decide (c_88 > 0)) true (isEo (.int .i64) (Kx K w.heap.size [v_117.ownBlock, v_22.ownBlock]) y_125.1), 79), (eqv (.bool (decide (c_88 > 0))), 75)] rfl rfl ?_ ?_
       ·intro W_ hW
        by_cases hc0 : (decide (c_88 > 0)) = true
        ·have hl0 : (decide (c_88 > 0)) = true := hc0
         have S1 := S
         intro v_182 hF_183
         replace hF_183 := cndF.pos hF_183 hc0
         revert hF_183
         revert v_182
         rintro _ ⟨p_186, rfl, R_187, H_188⟩
         replace S1 := S1.put (by decide : 79 < 119) (.pointer (some p_186))
         intro v_190 hF_189; obtain rfl : .bool (decide (c_88 > 0)) = v_190 := Eq.symm hF_189
         replace S1 := S1.put (by decide : 75 < 119) (.bool (decide (c_88 > 0)))
         refine fill_nil S1 ?_; clear S1; intro a_ S1
         rw [show (decide (c_88 > 0)) = true from hl0] at S1
         have S0 := S.defers; replace S := S1; clear S1
         obtain ⟨ey_125, ex_131, ey_132, _⟩ := (HG_124).1 hc0
         refine w_go S rfl (op_load (t := (.int .i64)) (x := y_125.1) S rfl ty3 rfl rfl rfl R_187 ?_)
         clear S; intro a v_191 R_192 S
         obtain ⟨rfl, GR_192⟩ := RepV.int R_192
         refine wpList_nil ?_
         exact RPost.mk_ S rfl S0 ⟨fun _ => ⟨rfl, GR_192⟩, fun k_ => absurd hc0 k_⟩ (Below.refl _ _)
        ·have hl0 : (decide (c_88 > 0)) = false := Bool.eq_false_iff.2 hc0
         have S1 := S
         intro v_193 hF_194
         obtain rfl := cndF.neg hF_194 hc0
         replace S1 := S1.put (by decide : 79 < 119) (undef)
         intro v_196 hF_195; obtain rfl : .bool (decide (c_88 > 0)) = v_196 := Eq.symm hF_195
         replace S1 := S1.put (by decide : 75 < 119) (.bool (decide (c_88 > 0)))
         refine fill_nil S1 ?_; clear S1; intro a_ S1
         rw [show (decide (c_88 > 0)) = false from hl0] at S1
         exact RPost.one (v := undef) S1 tys tys_ok rfl (by kernel_rfl) S.defers ⟨fun k_ => absurd k_ hc0, fun _ => rfl⟩ (Below.refl _ _)
       refine RunAll.cons (cndF (decide (c_88 > 0)) true (eqv (v_22))) [(eqv (.bool (decide (c_88 > 0))), 75)] rfl rfl ?_ ?_
       ·intro W_ hW
        by_cases hc0 : (decide (c_88 > 0)) = true
        ·have hl0 : (decide (c_88 > 0)) = true := hc0
         have S1 := S
         intro v_198 hF_197; obtain rfl : .bool (decide (c_88 > 0)) = v_198 := Eq.symm hF_197
         replace S1 := S1.put (by decide : 75 < 119) (.bool (decide (c_88 > 0)))
         refine fill_nil S1 ?_; clear S1; intro a_ S1
         replace O_23 := O_23.step hW
         rw [show (decide (c_88 > 0)) = true from hl0] at S1
         exact RPost.one (v := v_22) S1 tys tys_ok rfl (by kernel_rfl) S.defers ⟨fun _ => rfl, fun k_ => absurd hc0 k_⟩ (Below.refl _ _)
        ·have hl0 : (decide (c_88 > 0)) = false := Bool.eq_false_iff.2 hc0
         have S1 := S
         intro v_200 hF_199; obtain rfl : .bool (decide (c_88 > 0)) = v_200 := Eq.symm hF_199
         replace S1 := S1.put (by decide : 75 < 119) (.bool (decide (c_88 > 0)))
         refine fill_nil S1 ?_; clear S1; intro a_ S1
         rw [show (decide (c_88 > 0)) = false from hl0] at S1
         exact RPost.one (v := undef) S1 tys tys_ok rfl (by kernel_rfl) S.defers ⟨fun k_ => absurd k_ hc0, fun _ => rfl⟩ (Below.refl _ _)
       refine RunAll.cons (cndF (decide (c_88 > 0)) true (isI .i64 c_88)) [(eqv (.bool (decide (c_88 > 0))), 75)] rfl rfl ?_ ?_
       ·intro W_ hW
        by_cases hc0 : (decide (c_88 > 0)) = true
        ·have hl0 : (decide (c_88 > 0)) = true := hc0
         have S1 := S
         intro v_202 hF_201; obtain rfl : .bool (decide (c_88 > 0)) = v_202 := Eq.symm hF_201
         replace S1 := S1.put (by decide : 75 < 119) (.bool (decide (c_88 > 0)))
         refine fill_nil S1 ?_; clear S1; intro a_ S1
         rw [show (decide (c_88 > 0)) = true from hl0] at S1
         exact RPost.one (v := .int .i64 c_88) S1 tys tys_ok rfl (by kernel_rfl) S.defers ⟨fun _ => ⟨rfl, G_89⟩, fun k_ => absurd hc0 k_⟩ (Below.refl _ _)
        ·have hl0 : (decide (c_88 > 0)) = false := Bool.eq_false_iff.2 hc0
         have S1 := S
         intro v_204 hF_203; obtain rfl : .bool (decide (c_88 > 0)) = v_204 := Eq.symm hF_203
         replace S1 := S1.put (by decide : 75 < 119) (.bool (decide (c_88 > 0)))
         refine fill_nil S1 ?_; clear S1; intro a_ S1
         rw [show (decide (c_88 > 0)) = false from hl0] at S1
         exact RPost.one (v := undef) S1 tys tys_ok rfl (by kernel_rfl) S.defers ⟨fun k_ => absurd k_ hc0, fun _ => rfl⟩ (Below.refl _ _)
       refine RunAll.cons (cndF (decide (c_88 > 0)) true (isI .i64 x_131)) [(cndF (decide (c_88 > 0)) true (isI .i64 c_88), 82), (eqv (.bool (decide (c_88 > 0))), 75)] rfl rfl ?_ ?_
       ·intro W_ hW
        by_cases hc0 : (decide (c_88 > 0)) = true
        ·have hl0 : (decide (c_88 > 0)) = true := hc0
         have S1 := S
         intro v_205 hF_206
         replace hF_206 := cndF.pos hF_206 hc0
         revert hF_206
         revert v_205
         rintro _ ⟨rfl, hF_207⟩
         replace S1 := S1.put (by decide : 82 < 119) (.int .i64 c_88)
         intro v_210 hF_209; obtain rfl : .bool (decide (c_88 > 0)) = v_210 := Eq.symm hF_209
         replace S1 := S1.put (by decide : 75 < 119) (.bool (decide (c_88 > 0)))
         refine fill_nil S1 ?_; clear S1; intro a_ S1
         rw [show (decide (c_88 > 0)) = true from hl0] at S1
         have S0 := S.defers; replace S := S1; clear S1
         obtain ⟨ey_125, ex_131, ey_132, _⟩ := (HG_124).1 hc0
         refine w_go S rfl (op_arith S .i64 (c_88 - 1) rfl (.inr (.inl rfl)) rfl rfl rfl rfl ex_131 ?_)
         clear S; intro a S
         refine wpList_nil ?_
         exact RPost.mk_ S rfl S0 ⟨fun _ => ⟨rfl, (ckI_some ex_131).2.1⟩, fun k_ => absurd hc0 k_⟩ (Below.refl _ _)
        ·have hl0 : (decide (c_88 > 0)) = false := Bool.eq_false_iff.2 hc0
         have S1 := S
         intro v_211 hF_212
         obtain rfl := cndF.neg hF_212 hc0
         replace S1 := S1.put (by decide : 82 < 119) (undef)
         intro v_214 hF_213; obtain rfl : .bool (decide (c_88 > 0)) = v_214 := Eq.symm hF_213
         replace S1 := S1.put (by decide : 75 < 119) (.bool (decide (c_88 > 0)))
         refine fill_nil S1 ?_; clear S1; intro a_ S1
         rw [show (decide (c_88 > 0)) = false from hl0] at S1
         exact RPost.one (v := undef) S1 tys tys_ok rfl (by kernel_rfl) S.defers ⟨fun k_ => absurd k_ hc0, fun _ => rfl⟩ (Below.refl _ _)
       refine RunAll.cons (cndF (decide (c_88 > 0)) true (isEo gt2 (Kx K w.heap.size [v_117.ownBlock, v_22.ownBlock]) y_132)) [(cndF (decide (c_88 > 0)) true (eqv (v_22)), 81), (cndF (decide (c_88 > 0)) true (isI .i64 x_131), 83), (eqv (.bool (decide (c_88 > 0))), 75)] rfl rfl ?_ ?_
       ·intro W_ hW
        by_cases hc0 : (decide (c_88 > 0)) = true
        ·have hl0 : (decide (c_88 > 0)) = true := hc0
         have S1 := S
         intro v_215 hF_216
         replace hF_216 := cndF.pos hF_216 hc0
         revert hF_216
         revert v_215
         intro v_218 hF_217; obtain rfl : v_22 = v_218 := Eq.symm hF_217
         replace S1 := S1.put (by decide : 81 < 119) (v_22)
         intro v_219 hF_220
         replace hF_220 := cndF.pos hF_220 hc0
         revert hF_220
         revert v_219
         rintro _ ⟨rfl, hF_221⟩
         replace S1 := S1.put (by decide : 83 < 119) (.int .i64 x_131)
         intro v_224 hF_223; obtain rfl : .bool (decide (c_88 > 0)) = v_224 := Eq.symm hF_223
         replace S1 := S1.put (by decide : 75 < 119) (.bool (decide (c_88 > 0)))
         refine fill_nil S1 ?_; clear S1; intro a_ S1
         replace O_23 := O_23.step hW
         replace W := W.step hW
         rw [show (decide (c_88 > 0)) = true from hl0] at S1
         have S0 := S.defers; replace S := S1; clear S1
         obtain ⟨ey_125, ex_131, ey_132, _⟩ := (HG_124).1 hc0
         refine w_go S rfl (op_indexAddr_own S rfl ty48 rfl rfl rfl O_23 rfl ey_132 ?_)
         clear S; intro a g_225 H_227 R_226 S
         refine wpList_nil ?_
         exact RPost.mk_ S rfl S0 ⟨fun _ => ⟨_, rfl, R_226, W.ownlt (o := v_22.ownBlock) (List.mem_of_getElem? (i := 1) rfl) H_227⟩, fun k_ => absurd hc0 k_⟩ (Below.refl _ _)
        ·have hl0 : (decide (c_88 > 0)) = false := Bool.eq_false_iff.2 hc0
         have S1 := S
         intro v_228 hF_229
         obtain rfl := cndF.neg hF_229 hc0
         replace S1 := S1.put (by decide : 81 < 119) (undef)
         intro v_230 hF_231
         obtain rfl := cndF.neg hF_231 hc0
         replace S1 := S1.put (by decide : 83 < 119) (undef)
         intro v_233 hF_232; obtain rfl : .bool (decide (c_88 > 0)) = v_233 := Eq.symm hF_232
         replace S1 := S1.put (by decide : 75 < 119) (.bool (decide (c_88 > 0)))
         refine fill_nil S1 ?_; clear S1; intro a_ S1
         rw [show (decide (c_88 > 0)) = false from hl0] at S1
         exact RPost.one (v := undef) S1 tys tys_ok rfl (by kernel_rfl) S.defers ⟨fun k_ => absurd k_ hc0, fun _ => rfl⟩ (Below.refl _ _)
       refine RunAll.cons (cndF (decide (c_88 > 0)) true (isEo (.int .i64) (Kx K w.heap.size [v_117.ownBlock, v_22.ownBlock]) y_132.1)) [(cndF (decide (c_88 > 0)) true (isEo gt2 (Kx K w.heap.size [v_117.ownBlock, v_22.ownBlock]) y_132), 84), (eqv (.bool (decide (c_88 > 0))), 75)] rfl rfl ?_ ?_
       ·intro W_ hW
        by_cases hc0 : (decide (c_88 > 0)) = true
        ·have hl0 : (decide (c_88 > 0)) = true := hc0
         have S1 := S
         intro v_234 hF_235
         replace hF_235 := cndF.pos hF_235 hc0
         revert hF_235
         revert v_234
         rintro _ ⟨p_238, rfl, R_239, H_240⟩
         replace S1 := S1.put (by decide : 84 < 119) (.pointer (some p_238))
         intro v_242 hF_241; obtain rfl : .bool (decide (c_88 > 0)) = v_242 := Eq.symm hF_241
         replace S1 := S1.put (by decide : 75 < 119) (.bool (decide (c_88 > 0)))
         refine fill_nil S1 ?_; clear S1; intro a_ S1
         rw [show (decide (c_88 > 0)) = true from hl0] at S1
         exact RPost.one (v := .pointer (some (p_238.add (coff gf2 0)))) S1 tys tys_ok rfl (by kernel_rfl) S.defers ⟨fun _ => ⟨_, rfl, (RepAt.add 0 (RepAt.st (t := gf2) R_239)), (by simpa [Addr.add] using H_240)⟩, fun k_ => absurd hc0 k_⟩ (Below.refl _ _)
        ·have hl0 : (decide (c_88 > 0)) = false := Bool.eq_false_iff.2 hc0
         have S1 := S
         intro v_243 hF_244
         obtain rfl := cndF.neg hF_244 hc0
         replace S1 := S1.put (by decide : 84 < 119) (undef)
         intro v_246 hF_245; obtain rfl : .bool (decide (c_88 > 0)) = v_246 := Eq.symm hF_245
         replace S1 := S1.put (by decide : 75 < 119) (.bool (decide (c_88 > 0)))
         refine fill_nil S1 ?_; clear S1; intro a_ S1
         rw [show (decide (c_88 > 0)) = false from hl0] at S1
         exact RPost.one (v := undef) S1 tys tys_ok rfl (by kernel_rfl) S.defers ⟨fun k_ => absurd k_ hc0, fun _ => rfl⟩ (Below.refl _ _)
       refine RunAll.cons (cndF (decide (c_88 > 0)) true (isI .i64 y_132.1)) [(cndF (decide (c_88 > 0)) true (isEo (.int .i64) (Kx K w.heap.size [v_117.ownBlock, v_22.ownBlock]) y_132.1), 85), (eqv (.bool (decide (c_88 > 0))), 75)] rfl rfl ?_ ?_
       ·intro W_ hW
        by_cases hc0 : (decide (c_88 > 0)) = true
        ·have hl0 : (decide (c_88 > 0)) = true := hc0
         have S1 := S
         intro v_247 hF_248
         replace hF_248 := cndF.pos hF_248 hc0
         revert hF_248
         revert v_247
         rintro _ ⟨p_251, rfl, R_252, H_253⟩
         replace S1 := S1.put (by decide : 85 < 119) (.pointer (some p_251))
         intro v_255 hF_254; obtain rfl : .bool (decide (c_88 > 0)) = v_255 := Eq.symm hF_254
         replace S1 := S1.put (by decide : 75 < 119) (.bool (decide (c_88 > 0)))
         refine fill_nil S1 ?_; clear S1; intro a_ S1
         rw [show (decide (c_88 > 0)) = true from hl0] at S1
         have S0 := S.defers; replace S := S1; clear S1
         obtain ⟨ey_125, ex_131, ey_132, _⟩ := (HG_124).1 hc0
         refine w_go S rfl (op_load (t := (.int .i64)) (x := y_132.1) S rfl ty3 rfl rfl rfl R_252 ?_)
         clear S; intro a v_256 R_257 S
         obtain ⟨rfl, GR_257⟩ := RepV.int R_257
         refine wpList_nil ?_
         exact RPost.mk_ S rfl S0 ⟨fun _ => ⟨rfl, GR_257⟩, fun k_ => absurd hc0 k_⟩ (Below.refl _ _)
        ·have hl0 : (decide (c_88 > 0)) = false := Bool.eq_false_iff.2 hc0
         have S1 := S
         intro v_258 hF_259
         obtain rfl := cndF.neg hF_259 hc0
         replace S1 := S1.put (by decide : 85 < 119) (undef)
         intro v_261 hF_260; obtain rfl : .bool (decide (c_88 > 0)) = v_261 := Eq.symm hF_260
         replace S1 := S1.put (by decide : 75 < 119) (.bool (decide (c_88 > 0)))
         refine fill_nil S1 ?_; clear S1; intro a_ S1
         rw [show (decide (c_88 > 0)) = false from hl0] at S1
         exact RPost.one (v := undef) S1 tys tys_ok rfl (by kernel_rfl) S.defers ⟨fun k_ => absurd k_ hc0, fun _ => rfl⟩ (Below.refl _ _)
       refine RunAll.cons (cndF (decide (c_88 > 0)) true (eqv (.bool (decide (y_125.1 < y_132.1))))) [(cndF (decide (c_88 > 0)) true (isI .i64 y_125.1), 80), (cndF (decide (c_88 > 0)) true (isI .i64 y_132.1), 86), (eqv (.bool (decide (c_88 > 0))), 75)] rfl rfl ?_ ?_
       ·intro W_ hW
        by_cases hc0 : (decide (c_88 > 0)) = true
        ·have hl0 : (decide (c_88 > 0)) = true := hc0
         have S1 := S
         intro v_262 hF_263
         replace hF_263 := cndF.pos hF_263 hc0
         revert hF_263
         revert v_262
         rintro _ ⟨rfl, hF_264⟩
         replace S1 := S1.put (by decide : 80 < 119) (.int .i64 y_125.1)
         intro v_266 hF_267
         replace hF_267 := cndF.pos hF_267 hc0
         revert hF_267
         revert v_266
         rintro _ ⟨rfl, hF_268⟩
         replace S1 := S1.put (by decide : 86 < 119) (.int .i64 y_132.1)
         intro v_271 hF_270; obtain rfl : .bool (decide (c_88 > 0)) = v_271 := Eq.symm hF_270
         replace S1 := S1.put (by decide : 75 < 119) (.bool (decide (c_88 > 0)))
         refine fill_nil S1 ?_; clear S1; intro a_ S1
         rw [show (decide (c_88 > 0)) = true from hl0] at S1
         exact RPost.one (v := .bool (decide (y_125.1 < y_132.1))) S1 tys tys_ok rfl (by kernel_rfl) S.defers ⟨fun _ => rfl, fun k_ => absurd hc0 k_⟩ (Below.refl _ _)
        ·have hl0 : (decide (c_88 > 0)) = false := Bool.eq_false_iff.2 hc0
         have S1 := S
         intro v_272 hF_273
         obtain rfl := cndF.neg hF_273 hc0
         replace S1 := S1.put (by decide : 80 < 119) (undef)
         intro v_274 hF_275
         obtain rfl := cndF.neg hF_275 hc0
         replace S1 := S1.put (by decide : 86 < 119) (undef)
         intro v_277 hF_276; obtain rfl : .bool (decide (c_88 > 0)) = v_277 := Eq.symm hF_276
         replace S1 := S1.put (by decide : 75 < 119) (.bool (decide (c_88 > 0)))
         refine fill_nil S1 ?_; clear S1; intro a_ S1
         rw [show (decide (c_88 > 0)) = false from hl0] at S1
         exact RPost.one (v := undef) S1 tys tys_ok rfl (by kernel_rfl) S.defers ⟨fun k_ => absurd k_ hc0, fun _ => rfl⟩ (Below.refl _ _)
       refine RunAll.cons (eqv (.bool q_123)) [(eqv (.bool (decide (c_88 > 0))), 75), (cndF (decide (c_88 > 0)) true (eqv (.bool (decide (y_125.1 < y_132.1)))), 87)] rfl rfl ?_ ?_
       ·intro W_ hW
        by_cases hc0 : (decide (c_88 > 0)) = true
        ·have hl0 : (decide (c_88 > 0)) = true := hc0
         have S1 := S
         intro v_279 hF_278; obtain rfl : .bool (decide (c_88 > 0)) = v_279 := Eq.symm hF_278
         replace S1 := S1.put (by decide : 75 < 119) (.bool (decide (c_88 > 0)))
         intro v_280 hF_281
         replace hF_281 := cndF.pos hF_281 hc0
         revert hF_281
         revert v_280
         intro v_283 hF_282; obtain rfl : .bool (decide (y_125.1 < y_132.1)) = v_283 := Eq.symm hF_282
         replace S1 := S1.put (by decide : 87 < 119) (.bool (decide (y_125.1 < y_132.1)))
         refine fill_nil S1 ?_; clear S1; intro a_ S1
         rw [show (decide (c_88 > 0)) = true from hl0] at S1
         exact RPost.one (v := .bool (decide (y_125.1 < y_132.1))) S1 tys tys_ok rfl (by kernel_rfl) S.defers (congrArg Value.bool ((HG_124).1 hc0).2.2.2) (Below.refl _ _)
        ·have hl0 : (decide (c_88 > 0)) = false := Bool.eq_false_iff.2 hc0
         have S1 := S
         intro v_285 hF_284; obtain rfl : .bool (decide (c_88 > 0)) = v_285 := Eq.symm hF_284
         replace S1 := S1.put (by decide : 75 < 119) (.bool (decide (c_88 > 0)))
         intro v_286 hF_287
         obtain rfl := cndF.neg hF_287 hc0
         replace S1 := S1.put (by decide : 87 < 119) (undef)
         refine fill_nil S1 ?_; clear S1; intro a_ S1
         rw [show (decide (c_88 > 0)) = false from hl0] at S1
         exact RPost.one (v := .bool false) S1 tys tys_ok rfl (by kernel_rfl) S.defers (congrArg Value.bool ((HG_124).2 hc0)) (Below.refl _ _)
       exact trivial
      intro w_288 hb_289
      refine EndE.some_ rfl ?_
      rintro _ ⟨rfl, hF_290⟩
      replace S := S.put (by decide : 73 < 119) (.int .i64 c_88)
      refine EndE.some_ rfl ?_
      intro v_293 hF_292; obtain rfl : .bool (decide (c_88 > 0)) = v_293 := Eq.symm hF_292
      replace S := S.put (by decide : 74 < 119) (.bool (decide (c_88 > 0)))
      refine EndE.some_ rfl ?_
      intro v_295 hF_294; obtain rfl : .bool (decide (c_88 > 0)) = v_295 := Eq.symm hF_294
      replace S := S.put (by decide : 75 < 119) (.bool (decide (c_88 > 0)))
      refine EndE.some_ rfl ?_
      intro v_296 _
      replace S := S.put (by decide : 76 < 119) (v_296)
      refine EndE.some_ rfl ?_
      intro v_297 _
      replace S := S.put (by decide : 77 < 119) (v_297)
      refine EndE.some_ rfl ?_
      intro v_298 _
      replace S := S.put (by decide : 78 < 119) (v_298)
      refine EndE.some_ rfl ?_
      intro v_299 _
      replace S := S.put (by decide : 79 < 119) (v_299)
      refine EndE.some_ rfl ?_
      intro v_300 _
      replace S := S.put (by decide : 80 < 119) (v_300)
      refine EndE.some_ rfl ?_
      intro v_301 _
      replace S := S.put (by decide : 81 < 119) (v_301)
      refine EndE.some_ rfl ?_
      intro v_302 _
      replace S := S.put (by decide : 82 < 119) (v_302)
      refine EndE.some_ rfl ?_
      intro v_303 _
      replace S := S.put (by decide : 83 < 119) (v_303)
      refine EndE.some_ rfl ?_
      intro v_304 _
      replace S := S.put (by decide : 84 < 119) (v_304)
      refine EndE.some_ rfl ?_
      intro v_305 _
      replace S := S.put (by decide : 85 < 119) (v_305)
      refine EndE.some_ rfl ?_
      intro v_306 _
      replace S := S.put (by decide : 86 < 119) (v_306)
      refine EndE.some_ rfl ?_
      intro v_307 _
      replace S := S.put (by decide : 87 < 119) (v_307)
      refine EndE.some_ rfl ?_
      intro v_309 hF_308; obtain rfl : .bool q_123 = v_309 := Eq.symm hF_308
      replace S := S.put (by decide : 88 < 119) (.bool q_123)
      refine endE_nil S ?_; clear S; intro a S
      replace R_92 := R_92.step hb_289
      replace O_23 := O_23.step hb_289
      replace R_119 := R_119.step hb_289
      replace W := W.step hb_289
      refine then_n ?_
      replace S := S.sub (l' := [(88, .bool q_123), (12, .int .i64 t_116.2), (11, v_117), (9, .int .i64 c_88), (8, v_91), (5, v_22)]) (by exact ⟨rfl, rfl, rfl, rfl, rfl, rfl, trivial⟩)
      obtain ⟨j_310, ej_310, hl_106⟩ := bindS hl_106
      refine wp_cut_ (fun a_ w_ => St 119 a_ [(12, .int .i64 j_310), (11, v_117), (9, .int .i64 c_88), (8, v_91), (5, v_22)] ∧ Wd w w_ [v_117.ownBlock, v_22.ownBlock] ∧ InR .i64 j_310 ∧ RepV (.sl gt0) w_ (Kx K w.heap.size [v_117.ownBlock, v_22.ownBlock]) v_91 c_90 ∧ Ow gt0 33 w_ w.heap.size (Kx K w.heap.size [v_117.ownBlock, v_22.ownBlock]) v_117 t_116.1.xs t_116.1.cap ∧ Ow gt2 31 w_ w.heap.size (Kx K w.heap.size [v_117.ownBlock, v_22.ownBlock]) v_22 y_21 .none) ?_ ?_
      ·refine wp_cond_split (S.eval (show ev _ _ = some (.bool q_123) from rfl)) ?_ ?_
       ·intro hc
        rw [if_pos hc] at ej_310
        refine wp_region_lit ?_
        refine wl_pure (l' := [(12, .int .i64 1), (88, .bool q_123), (12, .int .i64 t_116.2), (11, v_117), (9, .int .i64 c_88), (8, v_91), (5, v_22)]) S tys tys_ok 1 (by kernel_rfl) ?_
        clear S; intro a S
        refine wpList_nil ?_
        refine then_n ?_
        obtain rfl := Option.some.inj ej_310
        exact ⟨S.sub (by exact ⟨rfl, rfl, rfl, rfl, rfl, trivial⟩), W, (show InR .i64 1 by decide), R_92, R_119, O_23⟩
       ·intro hc
        rw [if_neg (Bool.eq_false_iff.1 hc)] at ej_310
        refine wp_skip ?_
        refine then_n ?_
        obtain rfl := Option.some.inj ej_310
        exact ⟨S.sub (by exact ⟨rfl, rfl, rfl, rfl, rfl, trivial⟩), W, GR_120, R_92, R_119, O_23⟩
      clear S W; rintro a w_312 ⟨S, W, G_311, R_92, R_119, O_23⟩
      refine then_n ?_
      refine wp_seq ?_
      refine wp_region_lit ?_
      refine wl_pure (l' := [(10, .int .i64 j_310), (89, .int .i64 j_310), (12, .int .i64 j_310), (11, v_117), (9, .int .i64 c_88), (8, v_91), (5, v_22)]) S tys tys_ok 2 (by kernel_rfl) ?_
      clear S; intro a S
      refine wpList_nil ?_
      refine then_n ?_
      replace S := S.sub (l' := [(10, .int .i64 j_310), (12, .int .i64 j_310), (11, v_117), (9, .int .i64 c_88), (8, v_91), (5, v_22)]) (by exact ⟨rfl, rfl, rfl, rfl, rfl, rfl, trivial⟩)
      refine wp_seq ?_
      refine wp_region_lit ?_
      refine wl_pure (l' := [(91, .bool (j_310 == 0)), (90, .int .i64 j_310), (10, .int .i64 j_310), (12, .int .i64 j_310), (11, v_117), (9, .int .i64 c_88), (8, v_91), (5, v_22)]) S tys tys_ok 2 (by kernel_rfl) ?_
      clear S; intro a S
      refine wpList_nil ?_
      refine then_n ?_
      replace S := S.sub (l' := [(91, .bool (j_310 == 0)), (10, .int .i64 j_310), (11, v_117), (9, .int .i64 c_88), (8, v_91), (5, v_22)]) (by exact ⟨rfl, rfl, rfl, rfl, rfl, rfl, trivial⟩)
      obtain ⟨j_314, ej_314, hl_106⟩ := bindS hl_106
      refine wp_cut_ (fun a_ w_ => ∃ (v_316 : Value), St 119 a_ [(10, .int .i64 j_310), (9, .int .i64 j_314.1), (8, v_316), (5, v_22)] ∧ Wd w w_ [v_22.ownBlock] ∧ InR .i64 j_314.1 ∧ RepV (.sl gt0) w_ (Kx K w.heap.size [v_22.ownBlock]) v_316 j_314.2 ∧ Ow gt2 31 w_ w.heap.size (Kx K w.heap.size [v_22.ownBlock]) v_22 y_21 .none) ?_ ?_
      ·refine wp_cond_split (S.eval (show ev _ _ = some (.bool (j_310 == 0)) from rfl)) ?_ ?_
       ·intro hc
        rw [if_pos hc] at ej_314
        refine wp_seq ?_
        refine wp_region_lit ?_
        refine wl_pureK (l' := [(8, v_117), (10, .int .i64 j_310), (9, .int .i64 c_88), (8, v_91), (5, v_22)]) S tys tys_ok 2 [8, 10, 9, 5] (by kernel_rfl) ?_
        clear S; intro a S
        refine wpList_nil ?_
        refine then_n ?_
        refine wp_region_lit ?_
        refine wl_pure (l' := [(93, .int .i64 c_88), (8, v_117), (10, .int .i64 j_310), (9, .int .i64 c_88), (8, v_91), (5, v_22)]) S tys tys_ok 1 (by kernel_rfl) ?_
        clear S; intro a S
        obtain ⟨x_318, ex_318, ej_314⟩ := bindS ej_314
        refine w_go S rfl (op_arith S .i64 (c_88 + 1) rfl (.inl rfl) rfl rfl rfl rfl ex_318 ?_)
        clear S; intro a S
        refine wl_pure (l' := [(9, .int .i64 x_318), (94, .int .i64 x_318), (93, .int .i64 c_88), (8, v_117), (10, .int .i64 j_310), (9, .int .i64 c_88), (8, v_91), (5, v_22)]) S tys tys_ok 1 (by kernel_rfl) ?_
        clear S; intro a S
        refine wpList_nil ?_
        refine then_n ?_
        obtain rfl := Option.some.inj ej_314
        have R_319 : RepV (.sl gt0) w_312 (Kx K w.heap.size [v_22.ownBlock]) v_117 (⟨t_116.1.xs, t_116.1.cap⟩ : Sl ((Sl (Int)) × Int × Int)) := R_119.pubAt W 0 rfl
        replace O_23 : Ow gt2 31 w_312 w.heap.size (Kx K w.heap.size [v_22.ownBlock]) v_22 y_21 .none := O_23.lessAt 0
        replace W : Wd w w_312 [v_22.ownBlock] := W.lessAt 0
        exact ⟨v_117, S.sub (by exact ⟨rfl, rfl, rfl, rfl, trivial⟩), W, (ckI_some ex_318).2.1, R_319, O_23⟩
       ·intro hc
        rw [if_neg (Bool.eq_false_iff.1 hc)] at ej_314
        refine wp_skip ?_
        refine then_n ?_
        obtain rfl := Option.some.inj ej_314
        exact ⟨v_91, S.sub (by exact ⟨rfl, rfl, rfl, rfl, trivial⟩), (W.drop 1), G_89, (R_92.drop 1), (O_23.drop 1)⟩
      clear S W; rintro a w_320 ⟨v_316, S, W, G_315, R_317, O_23⟩
      refine blk_n ?_
      refine then_n ?_
      exact ⟨j_310, j_314.1, j_314.2, ⟨v_316, S.sub (by exact ⟨rfl, rfl, rfl, rfl, trivial⟩), W, G_311, G_315, R_317, O_23, hl_106⟩⟩
     ·intro hc
      rw [if_neg (Bool.eq_false_iff.1 hc)] at hl_106
      refine wp_exit ?_
      refine then_x ?_
      refine then_x ?_
      refine blk_hit ?_
      refine then_n ?_
      obtain rfl := Option.some.inj hl_106
      exact ⟨v_91, S.sub (by exact ⟨rfl, rfl, rfl, rfl, trivial⟩), W, G_89, G_87, R_92, O_23⟩
  clear S W; rintro a w_321 ⟨v_101, S, W, G_103, G_104, R_102, O_23⟩
  refine then_n ?_
  refine wp_seq ?_
  refine wp_seq ?_
  refine wp_region_lit ?_
  refine wl_pure (l' := [(96, .bool (y_100.2.2 != 0)), (95, .int .i64 y_100.2.2), (5, v_22), (8, v_101), (9, .int .i64 y_100.2.1), (10, .int .i64 y_100.2.2)]) S tys tys_ok 2 (by kernel_rfl) ?_
  clear S; intro a S
  refine wpList_nil ?_
  refine then_n ?_
  replace S := S.sub (l' := [(96, .bool (y_100.2.2 != 0)), (5, v_22), (8, v_101), (9, .int .i64 y_100.2.1), (10, .int .i64 y_100.2.2)]) (by exact ⟨rfl, rfl, rfl, rfl, rfl, trivial⟩)
  obtain ⟨j_322, ej_322, h⟩ := bindS h
  refine wp_cut_ (fun a_ w_ => ∃ (v_323 : Value), St 119 a_ [(5, v_22), (8, v_323), (9, .int .i64 y_100.2.1), (10, .int .i64 y_100.2.2)] ∧ Wd w w_ [v_22.ownBlock] ∧ RepV (.sl gt0) w_ (Kx K w.heap.size [v_22.ownBlock]) v_323 j_322 ∧ Ow gt2 31 w_ w.heap.size (Kx K w.heap.size [v_22.ownBlock]) v_22 y_21 .none) ?_ ?_
  ·refine wp_cond_split (S.eval (show ev _ _ = some (.bool (y_100.2.2 != 0)) from rfl)) ?_ ?_
   ·intro hc
    rw [if_pos hc] at ej_322
    refine wp_region_lit ?_
    refine wl_pure (l' := [(8, .slice .none 0 0), (96, .bool (y_100.2.2 != 0)), (5, v_22), (8, v_101), (9, .int .i64 y_100.2.1), (10, .int .i64 y_100.2.2)]) S tys tys_ok 1 (by kernel_rfl) ?_
    clear S; intro a S
    refine wpList_nil ?_
    refine then_n ?_
    obtain rfl := Option.some.inj ej_322
    exact ⟨.slice .none 0 0, S.sub (by exact ⟨rfl, rfl, rfl, rfl, trivial⟩), W, RepV.nil, O_23⟩
   ·intro hc
    rw [if_neg (Bool.eq_false_iff.1 hc)] at ej_322
    refine wp_skip ?_
    refine then_n ?_
    obtain rfl := Option.some.inj ej_322
    exact ⟨v_101, S.sub (by exact ⟨rfl, rfl, rfl, rfl, trivial⟩), W, R_102, O_23⟩
  clear S W; rintro a w_325 ⟨v_323, S, W, R_324, O_23⟩
  refine then_n ?_
  refine wp_seq ?_
  refine wp_region_lit ?_
  refine wl_pure (l' := [(98, v_22), (5, v_22), (8, v_323), (9, .int .i64 y_100.2.1), (10, .int .i64 y_100.2.2)]) S tys tys_ok 1 (by kernel_rfl) ?_
  clear S; intro a S
  have R_326 : RepV (.sl gt2) w_325 (Kx K w.heap.size []) v_22 (⟨y_21, .none⟩ : Sl (Int × Int × (Sl (Int)) × Int)) := O_23.pubAt W 0 rfl
  replace R_324 : RepV (.sl gt0) w_325 (Kx K w.heap.size []) v_323 j_322 := R_324.lessAt 0
  replace W : Wd w w_325 [] := W.lessAt 0
  obtain ⟨t_327, et_327, h⟩ := bindS h
  refine w_go S rfl (op_call (vs := [v_22]) S rfl cb19 rfl rfl rfl (c19 (Kx K w.heap.size []) n w_325 (⟨y_21, .none⟩ : Sl (Int × Int × (Sl (Int)) × Int)) _ R_326 et_327) ?_)
  rintro _ w_335 ⟨v_328, v_329, v_330, rfl, R_331, R_332, R_333, hb_334⟩; refine ⟨_, rfl, ?_⟩
  replace R_331 := RepV.back R_331 W
  replace R_332 := RepV.back R_332 W
  replace R_333 := RepV.back R_333 W
  clear S; intro a S
  replace R_326 := R_326.step hb_334
  replace R_324 := R_324.step hb_334
  replace W := W.step hb_334
  obtain ⟨rfl, GR_332⟩ := RepV.int R_332
  obtain ⟨rfl, GR_333⟩ := RepV.int R_333
  refine wl_pureK (l' := [(15, .int .i64 t_327.2.2), (14, .int .i64 t_327.2.1), (13, v_328), (8, v_323), (9, .int .i64 y_100.2.1), (10, .int .i64 y_100.2.2)]) S tys tys_ok 7 [15, 14, 13, 8, 9, 10] (by kernel_rfl) ?_
  clear S; intro a S
  refine wpList_nil ?_
  refine then_n ?_
  refine wp_seq ?_
  refine wp_region_lit ?_
  refine wl_pureK (l' := [(106, .bool (t_327.2.2 == y_100.2.2)), (14, .int .i64 t_327.2.1), (13, v_328), (8, v_323), (9, .int .i64 y_100.2.1)]) S tys tys_ok 4 [106, 14, 13, 8, 9] (by kernel_rfl) ?_
  clear S; intro a S
  obtain ⟨q_336, eq_336, h⟩ := bindS h
  refine seg 4 (fun a_ w_ => w_335 = w_ ∧ St 119 a_ [(110, .bool q_336), (13, v_328), (8, v_323)]) ?_ ?_
  ·by_cases hc : (t_327.2.2 == y_100.2.2) = true
   ·rw [if_pos hc] at eq_336; rw [hc] at S
    refine wl_pureK (l' := [(110, .bool (t_327.2.1 == y_100.2.1)), (13, v_328), (8, v_323)]) S tys tys_ok 4 [110, 13, 8] (by kernel_rfl) ?_
    clear S; intro a S
    obtain rfl := Option.some.inj eq_336
    exact ⟨rfl, S.sub (by exact ⟨rfl, rfl, rfl, trivial⟩)⟩
   ·rw [if_neg hc] at eq_336; rw [show (t_327.2.2 == y_100.2.2) = false from Bool.eq_false_iff.2 hc] at S
    refine wl_pureK (l' := [(110, .bool false), (13, v_328), (8, v_323)]) S tys tys_ok 4 [110, 13, 8] (by kernel_rfl) ?_
    clear S; intro a S
    obtain rfl := Option.some.inj eq_336
    exact ⟨rfl, S.sub (by exact ⟨rfl, rfl, rfl, trivial⟩)⟩
  clear S eq_336; rintro a _ ⟨rfl, S⟩
  refine wl_pure (l' := [(111, .bool q_336), (110, .bool q_336), (13, v_328), (8, v_323)]) S tys tys_ok 1 (by kernel_rfl) ?_
  clear S; intro a S
  obtain ⟨q_337, eq_337, h⟩ := bindS h
  refine seg 4 (fun a_ w_ => St 119 a_ [(115, .bool q_337)] ∧ Wd w w_ []) ?_ ?_
  ·by_cases hc : q_336 = true
   ·rw [if_pos hc] at eq_337; rw [hc] at S
    refine wl_pureK (l' := [(113, v_323), (112, v_328), (111, .bool true)]) S tys tys_ok 2 [113, 112, 111] (by kernel_rfl) ?_
    clear S; intro a S
    obtain ⟨t_338, et_338, eq_337⟩ := bindS eq_337
    refine w_go S rfl (op_call (vs := [v_328, v_323]) S rfl cb15 rfl rfl rfl (c15 (Kx K w.heap.size []) n w_335 t_327.1 _ R_331 j_322 _ R_324 et_338) ?_)
    rintro _ w_342 ⟨v_339, rfl, R_340, hb_341⟩; refine ⟨_, rfl, ?_⟩
    replace R_340 := RepV.back R_340 W
    clear S; intro a S
    replace R_331 := R_331.step hb_341
    replace R_324 := R_324.step hb_341
    replace W := W.step hb_341
    obtain rfl := RepV.bool R_340
    refine wl_pureK (l' := [(115, .bool t_338)]) S tys tys_ok 1 [115] (by kernel_rfl) ?_
    clear S; intro a S
    obtain rfl := Option.some.inj eq_337
    exact ⟨S.sub (by exact ⟨rfl, trivial⟩), W⟩
   ·rw [if_neg hc] at eq_337; rw [show q_336 = false from Bool.eq_false_iff.2 hc] at S
    refine wl_pureK (l' := [(115, .bool false)]) S tys tys_ok 4 [115] (by kernel_rfl) ?_
    clear S; intro a S
    obtain rfl := Option.some.inj eq_337
    exact ⟨S.sub (by exact ⟨rfl, trivial⟩), W⟩
  clear S W eq_337; rintro a w_343 ⟨S, W⟩
  refine wl_pure (l' := [(116, .bool q_337), (115, .bool q_337)]) S tys tys_ok 1 (by kernel_rfl) ?_
  clear S; intro a S
  obtain ⟨q_344, eq_344, h⟩ := bindS h
  refine seg 2 (fun a_ w_ => St 119 a_ [(118, .bool q_344)] ∧ Wd w w_ []) ?_ ?_
  ·by_cases hc : q_337 = true
   ·rw [if_pos hc] at eq_344; rw [hc] at S
    obtain ⟨t_345, et_345, eq_344⟩ := bindS eq_344
    refine w_go S rfl (op_call (vs := []) S rfl cb11 rfl rfl rfl (c11 (Kx K w.heap.size []) n w_343  et_345) ?_)
    rintro _ w_349 ⟨v_346, rfl, R_347, hb_348⟩; refine ⟨_, rfl, ?_⟩
    replace R_347 := RepV.back R_347 W
    clear S; intro a S
    replace W := W.step hb_348
    obtain rfl := RepV.bool R_347
    refine wl_pureK (l' := [(118, .bool t_345)]) S tys tys_ok 1 [118] (by kernel_rfl) ?_
    clear S; intro a S
    obtain rfl := Option.some.inj eq_344
    exact ⟨S.sub (by exact ⟨rfl, trivial⟩), W⟩
   ·rw [if_neg hc] at eq_344; rw [show q_337 = false from Bool.eq_false_iff.2 hc] at S
    refine wl_pureK (l' := [(118, .bool false)]) S tys tys_ok 2 [118] (by kernel_rfl) ?_
    clear S; intro a S
    obtain rfl := Option.some.inj eq_344
    exact ⟨S.sub (by exact ⟨rfl, trivial⟩), W⟩
  clear S W eq_344; rintro a w_350 ⟨S, W⟩
  refine wl_pure (l' := [(4, .bool q_344), (118, .bool q_344)]) S tys tys_ok 1 (by kernel_rfl) ?_
  clear S; intro a S
  refine wpList_nil ?_
  refine then_n ?_
  replace S := S.sub (l' := [(4, .bool q_344)]) (by exact ⟨rfl, trivial⟩)
  refine wp_ret ?_
  obtain rfl := Option.some.inj h
  exact b_ret1 S rfl rfl ⟨_, rfl, RepV.mkBool, W.below⟩

end Go.Proofs.Ytmcpcdmonglkjaa
