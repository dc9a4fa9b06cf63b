/- Functions of the program, as plain data. -/
import Derived.Test.YtmcpcdmonglkjaaP3
set_option linter.unusedVariables false
set_option linter.unusedSimpArgs false
namespace Go.Proofs.Ytmcpcdmonglkjaa
open Go.RowKit

def p14_l1 (n : Nat) (x0 : Sl ((Sl (Int)) × Int × Int)) (x1 : Int × Int × (Sl (Int)) × Int) : Nat → (Int) → Option ((Int))
 | 0, _ => .none
 | m + 1, c_43 => (if (decide (c_43 < (lenI x0))) = true then (idx x0.xs c_43).bind fun y_55 => (p28 n y_55.1 x1.2.2.1).bind fun t_63 => some t_63 else some false).bind fun q_53 => if q_53 then ((ckI .i64 (c_43 + 1)).bind fun x_200 => p14_l1 n x0 x1 m x_200) else some c_43
def p14_l2 (n : Nat) (x0 : Sl ((Sl (Int)) × Int × Int)) (x1 : Int × Int × (Sl (Int)) × Int) : Nat → (Int) → Option ((Unit) ⊕ ((Sl ((Sl (Int)) × Int × Int)) × (Int)))
 | 0, _ => .none
 | m + 1, c_442 => if (decide (c_442 < (lenI x0))) then ((idx x0.xs c_442).bind fun y_452 => (p27 n y_452.1 x1.2.2.1).bind fun t_460 => if t_460 then (some (.inr ((⟨([] : List ((Sl (Int)) × Int × Int)), some 0⟩ : Sl ((Sl (Int)) × Int × Int)), 6))) else (ckI .i64 (c_442 + 1)).bind fun x_521 => p14_l2 n x0 x1 m x_521) else some (.inl ())
def p14_l3 (n : Nat) (x0 : Sl ((Sl (Int)) × Int × Int)) (x1 : Int × Int × (Sl (Int)) × Int) : Nat → (Int) → Option ((Unit) ⊕ ((Sl ((Sl (Int)) × Int × Int)) × (Int)))
 | 0, _ => .none
 | m + 1, c_597 => if (decide (c_597 < (lenI x0))) then ((if (x1.2.1 == 2) = true then (idx x0.xs c_597).bind fun y_611 => some (y_611.2.2 == x1.2.2.2) else some false).bind fun q_609 => if q_609 then (some (.inr ((⟨([] : List ((Sl (Int)) × Int × Int)), some 0⟩ : Sl ((Sl (Int)) × Int × Int)), 8))) else (ckI .i64 (c_597 + 1)).bind fun x_745 => p14_l3 n x0 x1 m x_745) else some (.inl ())
def p14 (n : Nat) (x0 : Sl ((Sl (Int)) × Int × Int)) (x1 : Int × Int × (Sl (Int)) × Int) : Option ((Sl ((Sl (Int)) × Int × Int)) × (Int)) :=
 (p26 n x0 x1.2.2.1).bind fun t_7 =>
 if (x1.2.1 == 1) then (if (decide (t_7 ≥ 0)) then (some ((⟨([] : List ((Sl (Int)) × Int × Int)), some 0⟩ : Sl ((Sl (Int)) × Int × Int)), 8)) else (ckI .i64 ((lenI x1.2.2.1) - 1)).bind fun x_20 => (slI x1.2.2.1 0 x_20).bind fun s_23 => (p26 n x0 s_23).bind fun t_24 => (if (decide ((lenI x1.2.2.1) > 1)) = true then (if (decide (t_24 < 0)) = false then (idx x0.xs t_24).bind fun y_34 => some (y_34.2.1 != 2) else some true).bind fun q_33 => some q_33 else some false).bind fun q_32 => if q_32 then (some ((⟨([] : List ((Sl (Int)) × Int × Int)), some 0⟩ : Sl ((Sl (Int)) × Int × Int)), 7)) else if (decide ((lenI x0) ≥ 127)) then (some ((⟨([] : List ((Sl (Int)) × Int × Int)), some 0⟩ : Sl ((Sl (Int)) × Int × Int)), 9)) else (p14_l1 n x0 x1 n 0).bind fun (y_47 : (Int)) => ((slI x0 0 y_47).bind fun s_213 => (appI ([] : List ((Sl (Int)) × Int × Int)) s_213.xs).bind fun l_214 => (appI l_214 ([(x1.2.2.1, 1, 0)])).bind fun l_227 => (slI x0 y_47 (lenI x0)).bind fun s_234 => (appI l_227 s_234.xs).bind fun l_235 => some l_235).bind fun (j_202 : (List ((Sl (Int)) × Int × Int))) => some ((⟨j_202, .none⟩ : Sl ((Sl (Int)) × Int × Int)), 0)) else if (decide (t_7 < 0)) then (some ((⟨([] : List ((Sl (Int)) × Int × Int)), some 0⟩ : Sl ((Sl (Int)) × Int × Int)), 7)) else if (x1.2.1 == 4) then ((p14_l2 n x0 x1 n 0).bind fun (y_446 : (Unit) ⊕ ((Sl ((Sl (Int)) × Int × Int)) × (Int))) => lrK y_446 some fun (s_447 : Unit) => ((slI x0 0 t_7).bind fun s_534 => (appI ([] : List ((Sl (Int)) × Int × Int)) s_534.xs).bind fun l_535 => (ckI .i64 (t_7 + 1)).bind fun x_540 => (slI x0 x_540 (lenI x0)).bind fun s_543 => (appI l_535 s_543.xs).bind fun l_544 => some l_544).bind fun (j_523 : (List ((Sl (Int)) × Int × Int))) => some ((⟨j_523, .none⟩ : Sl ((Sl (Int)) × Int × Int)), 0)) else (idx x0.xs t_7).bind fun y_590 => if (y_590.2.1 != 1) then (some ((⟨([] : List ((Sl (Int)) × Int × Int)), some 0⟩ : Sl ((Sl (Int)) × Int × Int)), 6)) else (p14_l3 n x0 x1 n 0).bind fun (y_601 : (Unit) ⊕ ((Sl ((Sl (Int)) × Int × Int)) × (Int))) => lrK y_601 some fun (s_602 : Unit) => (appI ([] : List ((Sl (Int)) × Int × Int)) x0.xs).bind fun l_751 => (idx l_751 t_7).bind fun y_758 => (idx (l_751.set t_7.toNat (y_758.1, x1.2.1, y_758.2.2)) t_7).bind fun y_768 => some ((⟨((l_751.set t_7.toNat (y_758.1, x1.2.1, y_758.2.2)).set t_7.toNat (y_768.1, y_768.2.1, x1.2.2.2)), capA (some 0) l_751.length⟩ : Sl ((Sl (Int)) × Int × Int)), 0)
set_option maxHeartbeats 4000000 in
set_option maxRecDepth 100000 in
/-- plugboard/plugboardlaw31.behind -/
theorem c14 (K : Nat → Prop) (n : Nat) (w : World) (x0 : Sl ((Sl (Int)) × Int × Int)) (v0 : Value) (R0 : RepV (.sl gt0) w K v0 x0) (x1 : Int × Int × (Sl (Int)) × Int) (v1 : Value) (R1 : RepV gt2 w K v1 x1) {r : (Sl ((Sl (Int)) × Int × Int)) × (Int)} (h : p14 n x0 x1 = some r) :
  Calls Try.prog 14 #[v0, v1] w (fun e_ w_ => ∃ v0_ v1_ : Value, e_ = .returned (.tuple #[v0_, v1_]) ∧ Ow gt0 33 w_ w.heap.size (Kx K w.heap.size [v0_.ownBlock]) v0_ r.1.xs r.1.cap ∧ RepV (.int .i64) w_ (Kx K w.heap.size [v0_.ownBlock]) v1_ r.2 ∧ Below w.heap.size w w_) := by
 refine enter (args := [v0, v1]) Try.func14 rfl 149 rfl rfl fun a S => ?_
 have W := Wd.start w
 replace R0 := R0.arg
 replace R1 := R1.arg
 unfold p14 at h
 replace S : St 149 a [(0, v0), (1, v1)] := S
 refine wp_seq ?_
 refine wp_region_lit ?_
 refine w_go S rfl (op_box S rfl rfl rfl rfl rfl R1 ?_)
 clear S; intro a w_3 b_1 hb_4 B_2 S
 replace R0 := R0.box hb_4
 replace R1 := R1.box hb_4
 replace W := W.box hb_4
 refine wl_pureK (l' := [(3, pB b_1), (0, v0)]) S tys tys_ok 2 [3, 0] (by kernel_rfl) ?_
 clear S; intro a S
 refine wpList_nil ?_
 refine then_n ?_
 refine wp_seq ?_
 refine wp_region_lit ?_
 refine wl_pure (l' := [(13, .pointer (some ((⟨b_1, 0, .none⟩ : Addr).add (coff gf2 2)))), (12, v0), (3, pB b_1), (0, v0)]) S tys tys_ok 2 (by kernel_rfl) ?_
 clear S; intro a S
 refine w_go S rfl (op_load (t := (.sl (.int .u8))) (x := x1.2.2.1) S rfl ty25 rfl rfl rfl (RepAt.add 2 (RepAt.st (t := gf2) B_2.at_)) ?_)
 clear S; intro a v_5 R_6 S
 obtain ⟨t_7, et_7, h⟩ := bindS h
 refine w_go S rfl (op_call (vs := [v0, v_5]) S rfl cb26 rfl rfl rfl (c26 (Kx K w.heap.size [some b_1]) n w_3 x0 _ R0 x1.2.2.1 _ R_6 et_7) ?_)
 rintro _ w_11 ⟨v_8, rfl, R_9, hb_10⟩; refine ⟨_, rfl, ?_⟩
 replace R_9 := RepV.back R_9 W
 clear S; intro a S
 replace R0 := R0.step hb_10
 replace R_6 := R_6.step hb_10
 replace B_2 := B_2.step hb_10
 replace W := W.step hb_10
 obtain ⟨rfl, GR_9⟩ := RepV.int R_9
 refine wl_pureK (l' := [(6, .int .i64 t_7), (3, pB b_1), (0, v0)]) S tys tys_ok 1 [6, 3, 0] (by kernel_rfl) ?_
 clear S; intro a S
 refine wpList_nil ?_
 refine then_n ?_
 refine wp_seq ?_
 refine wp_seq ?_
 refine wp_region_lit ?_
 refine wl_pure (l' := [(16, .pointer (some ((⟨b_1, 0, .none⟩ : Addr).add (coff gf2 1)))), (6, .int .i64 t_7), (3, pB b_1), (0, v0)]) S tys tys_ok 1 (by kernel_rfl) ?_
 clear S; intro a S
 refine w_go S rfl (op_load (t := (.int .u8)) (x := x1.2.1) S rfl ty29 rfl rfl rfl (RepAt.add 1 (RepAt.st (t := gf2) B_2.at_)) ?_)
 clear S; intro a v_12 R_13 S
 obtain ⟨rfl, GR_13⟩ := RepV.int R_13
 refine wl_pure (l' := [(18, .bool (x1.2.1 == 1)), (17, .int .u8 x1.2.1), (16, .pointer (some ((⟨b_1, 0, .none⟩ : Addr).add (coff gf2 1)))), (6, .int .i64 t_7), (3, pB b_1), (0, v0)]) S tys tys_ok 1 (by kernel_rfl) ?_
 clear S; intro a S
 refine wpList_nil ?_
 refine then_n ?_
 replace S := S.sub (l' := [(18, .bool (x1.2.1 == 1)), (6, .int .i64 t_7), (3, pB b_1), (0, v0)]) (by exact ⟨rfl, rfl, rfl, rfl, trivial⟩)
 refine wp_cond_split (S.eval (show ev _ _ = some (.bool (x1.2.1 == 1)) from rfl)) ?_ ?_
 ·intro hc
  rw [if_pos hc] at h
  refine wp_seq ?_
  refine wp_seq ?_
  refine wp_region_lit ?_
  refine wl_pureK (l' := [(20, .bool (decide (t_7 ≥ 0))), (3, pB b_1), (0, v0)]) S tys tys_ok 2 [20, 3, 0] (by kernel_rfl) ?_
  clear S; intro a S
  refine wpList_nil ?_
  refine then_n ?_
  refine wp_cond_split (S.eval (show ev _ _ = some (.bool (decide (t_7 ≥ 0))) from rfl)) ?_ ?_
  ·intro hc
   rw [if_pos hc] at h
   refine wp_seq ?_
   refine wp_region_lit ?_
   refine wl_pureK (l' := [(5, .int .i64 8), (4, .slice .none 0 0)]) S tys tys_ok 2 [5, 4] (by kernel_rfl) ?_
   clear S; intro a S
   refine wpList_nil ?_
   refine then_n ?_
   refine wp_ret ?_
   refine then_r ?_
   refine then_r ?_
   replace B_2 := B_2.more
   replace W := W.more
   have O_14 : Ow gt0 33 w_11 w.heap.size (Kx K w.heap.size [.none, some b_1]) (.slice .none 0 0) ([] : List ((Sl (Int)) × Int × Int)) (some 0) := Ow.nil
   obtain rfl := Option.some.inj h
   exact b_ret2 S rfl rfl rfl ⟨_, _, rfl, (O_14.lessO 0 rfl), (RepV.mkInt (by decide)), W.below⟩
  ·intro hc
   rw [if_neg (Bool.eq_false_iff.1 hc)] at h
   refine wp_skip ?_
   refine then_n ?_
   replace S := S.sub (l' := [(3, pB b_1), (0, v0)]) (by exact ⟨rfl, rfl, trivial⟩)
   refine wp_seq ?_
   refine wp_region_lit ?_
   refine wl_pure (l' := [(22, .pointer (some ((⟨b_1, 0, .none⟩ : Addr).add (coff gf2 2)))), (21, v0), (3, pB b_1), (0, v0)]) S tys tys_ok 2 (by kernel_rfl) ?_
   clear S; intro a S
   refine w_go S rfl (op_load (t := (.sl (.int .u8))) (x := x1.2.2.1) S rfl ty25 rfl rfl rfl (RepAt.add 2 (RepAt.st (t := gf2) B_2.at_)) ?_)
   clear S; intro a v_15 R_16 S
   refine wl_pure (l' := [(24, .pointer (some ((⟨b_1, 0, .none⟩ : Addr).add (coff gf2 2)))), (23, v_15), (22, .pointer (some ((⟨b_1, 0, .none⟩ : Addr).add (coff gf2 2)))), (21, v0), (3, pB b_1), (0, v0)]) S tys tys_ok 1 (by kernel_rfl) ?_
   clear S; intro a S
   refine w_go S rfl (op_load (t := (.sl (.int .u8))) (x := x1.2.2.1) S rfl ty25 rfl rfl rfl (RepAt.add 2 (RepAt.st (t := gf2) B_2.at_)) ?_)
   clear S; intro a v_17 R_18 S
   refine w_go S rfl (op_len (K := _) S rfl ty25 rfl rfl rfl R_18 ?_)
   clear S; intro a G_19 S
   obtain ⟨x_20, ex_20, h⟩ := bindS h
   refine w_go S rfl (op_arith S .i64 ((lenI x1.2.2.1) - 1) rfl (.inr (.inl rfl)) rfl rfl rfl rfl ex_20 ?_)
   clear S; intro a S
   obtain ⟨s_23, es_23, h⟩ := bindS h
   refine w_go S rfl (op_slice S rfl ty25 rfl rfl rfl R_16 (.inl ⟨rfl, rfl⟩) (.inr ⟨_, _, rfl, rfl⟩) es_23 ?_)
   clear S; intro a v_21 R_22 S
   obtain ⟨t_24, et_24, h⟩ := bindS h
   refine w_go S rfl (op_call (vs := [v0, v_21]) S rfl cb26 rfl rfl rfl (c26 (Kx K w.heap.size [some b_1]) n w_11 x0 _ R0 s_23 _ R_22 et_24) ?_)
   rintro _ w_28 ⟨v_25, rfl, R_26, hb_27⟩; refine ⟨_, rfl, ?_⟩
   replace R_26 := RepV.back R_26 W
   clear S; intro a S
   replace R0 := R0.step hb_27
   replace R_16 := R_16.step hb_27
   replace R_18 := R_18.step hb_27
   replace R_22 := R_22.step hb_27
   replace B_2 := B_2.step hb_27
   replace W := W.step hb_27
   obtain ⟨rfl, GR_26⟩ := RepV.int R_26
   refine wl_pureK (l' := [(7, .int .i64 t_24), (3, pB b_1), (0, v0)]) S tys tys_ok 1 [7, 3, 0] (by kernel_rfl) ?_
   clear S; intro a S
   refine wpList_nil ?_
   refine then_n ?_
   refine wp_seq ?_
   refine wp_seq ?_
   refine wp_region_lit ?_
   refine wl_pure (l' := [(30, .pointer (some ((⟨b_1, 0, .none⟩ : Addr).add (coff gf2 2)))), (7, .int .i64 t_24), (3, pB b_1), (0, v0)]) S tys tys_ok 1 (by kernel_rfl) ?_
   clear S; intro a S
   refine w_go S rfl (op_load (t := (.sl (.int .u8))) (x := x1.2.2.1) S rfl ty25 rfl rfl rfl (RepAt.add 2 (RepAt.st (t := gf2) B_2.at_)) ?_)
   clear S; intro a v_29 R_30 S
   refine w_go S rfl (op_len (K := _) S rfl ty25 rfl rfl rfl R_30 ?_)
   clear S; intro a G_31 S
   refine wl_pureK (l' := [(34, .bool (decide ((lenI x1.2.2.1) > 1))), (7, .int .i64 t_24), (3, pB b_1), (0, v0)]) S tys tys_ok 2 [34, 7, 3, 0] (by kernel_rfl) ?_
   clear S; intro a S
   obtain ⟨q_32, eq_32, h⟩ := bindS h
   refine seg 11 (fun a_ w_ => w_28 = w_ ∧ St 149 a_ [(45, .bool q_32), (3, pB b_1), (0, v0)]) ?_ ?_
   ·by_cases hc : (decide ((lenI x1.2.2.1) > 1)) = true
    ·rw [if_pos hc] at eq_32; rw [hc] at S
     refine wl_pure (l' := [(37, .bool (decide (t_24 < 0))), (36, .bool (decide (t_24 < 0))), (35, .int .i64 t_24), (34, .bool true), (7, .int .i64 t_24), (3, pB b_1), (0, v0)]) S tys tys_ok 3 (by kernel_rfl) ?_
     clear S; intro a S
     obtain ⟨q_33, eq_33, eq_32⟩ := bindS eq_32
     refine seg 7 (fun a_ w_ => w_28 = w_ ∧ St 149 a_ [(44, .bool q_33), (34, .bool true), (3, pB b_1), (0, v0)]) ?_ ?_
     ·by_cases hc : (decide (t_24 < 0)) = false
      ·rw [if_pos hc] at eq_33; rw [hc] at S
       refine wl_pureK (l' := [(39, .int .i64 t_24), (38, v0), (37, .bool false), (34, .bool true), (3, pB b_1), (0, v0)]) S tys tys_ok 2 [39, 38, 37, 34, 3, 0] (by kernel_rfl) ?_
       clear S; intro a S
       obtain ⟨y_34, ey_34, eq_33⟩ := bindS eq_33
       refine w_go S rfl (op_indexAddr S rfl ty23 rfl rfl rfl R0 rfl ey_34 ?_)
       clear S; intro a p_35 R_36 H_37 S
       refine wl_pureK (l' := [(41, .pointer (some (p_35.add (coff gf0 1)))), (37, .bool false), (34, .bool true), (3, pB b_1), (0, v0)]) S tys tys_ok 1 [41, 37, 34, 3, 0] (by kernel_rfl) ?_
       clear S; intro a S
       refine w_go S rfl (op_load (t := (.int .u8)) (x := y_34.2.1) S rfl ty29 rfl rfl rfl (RepAt.add 1 (RepAt.st (t := gf0) R_36)) ?_)
       clear S; intro a v_38 R_39 S
       obtain ⟨rfl, GR_39⟩ := RepV.int R_39
       refine wl_pureK (l' := [(44, .bool (y_34.2.1 != 2)), (34, .bool true), (3, pB b_1), (0, v0)]) S tys tys_ok 2 [44, 34, 3, 0] (by kernel_rfl) ?_
       clear S; intro a S
       obtain rfl := Option.some.inj eq_33
       exact ⟨rfl, S.sub (by exact ⟨rfl, rfl, rfl, rfl, trivial⟩)⟩
      ·rw [if_neg hc] at eq_33; rw [show (decide (t_24 < 0)) = true from (by simpa using hc)] at S
       refine wl_pureK (l' := [(44, .bool true), (34, .bool true), (3, pB b_1), (0, v0)]) S tys tys_ok 7 [44, 34, 3, 0] (by kernel_rfl) ?_
       clear S; intro a S
       obtain rfl := Option.some.inj eq_33
       exact ⟨rfl, S.sub (by exact ⟨rfl, rfl, rfl, rfl, trivial⟩)⟩
     clear S eq_33; rintro a _ ⟨rfl, S⟩
     refine wl_pure (l' := [(45, .bool q_33), (44, .bool q_33), (34, .bool true), (3, pB b_1), (0, v0)]) S tys tys_ok 1 (by kernel_rfl) ?_
     clear S; intro a S
     obtain rfl := Option.some.inj eq_32
     exact ⟨rfl, S.sub (by exact ⟨rfl, rfl, rfl, trivial⟩)⟩
    ·rw [if_neg hc] at eq_32; rw [show (decide ((lenI x1.2.2.1) > 1)) = false from Bool.eq_false_iff.2 hc] at S
     refine wl_pureK (l' := [(45, .bool false), (3, pB b_1), (0, v0)]) S tys tys_ok 11 [45, 3, 0] (by kernel_rfl) ?_
     clear S; intro a S
     obtain rfl := Option.some.inj eq_32
     exact ⟨rfl, S.sub (by exact ⟨rfl, rfl, rfl, trivial⟩)⟩
   clear S eq_32; rintro a _ ⟨rfl, S⟩
   refine wpList_nil ?_
   refine then_n ?_
   refine wp_cond_split (S.eval (show ev _ _ = some (.bool q_32) from rfl)) ?_ ?_
   ·intro hc
    rw [if_pos hc] at h
    refine wp_seq ?_
    refine wp_region_lit ?_
    refine wl_pureK (l' := [(5, .int .i64 7), (4, .slice .none 0 0)]) S tys tys_ok 2 [5, 4] (by kernel_rfl) ?_
    clear S; intro a S
    refine wpList_nil ?_
    refine then_n ?_
    refine wp_ret ?_
    refine then_r ?_
    refine then_r ?_
    replace B_2 := B_2.more
    replace W := W.more
    have O_40 : Ow gt0 33 w_28 w.heap.size (Kx K w.heap.size [.none, some b_1]) (.slice .none 0 0) ([] : List ((Sl (Int)) × Int × Int)) (some 0) := Ow.nil
    obtain rfl := Option.some.inj h
    exact b_ret2 S rfl rfl rfl ⟨_, _, rfl, (O_40.lessO 0 rfl), (RepV.mkInt (by decide)), W.below⟩
   ·intro hc
    rw [if_neg (Bool.eq_false_iff.1 hc)] at h
    refine wp_skip ?_
    refine then_n ?_
    replace S := S.sub (l' := [(3, pB b_1), (0, v0)]) (by exact ⟨rfl, rfl, trivial⟩)
    refine wp_seq ?_
    refine wp_seq ?_
    refine wp_region_lit ?_
    refine wl_pure (l' := [(46, v0), (3, pB b_1), (0, v0)]) S tys tys_ok 1 (by kernel_rfl) ?_
    clear S; intro a S
    refine w_go S rfl (op_len (K := _) S rfl ty23 rfl rfl rfl R0 ?_)
    clear S; intro a G_41 S
    refine wl_pure (l' := [(48, .bool (decide ((lenI x0) ≥ 127))), (47, .int .i64 (lenI x0)), (46, v0), (3, pB b_1), (0, v0)]) S tys tys_ok 1 (by kernel_rfl) ?_
    clear S; intro a S
    refine wpList_nil ?_
    refine then_n ?_
    replace S := S.sub (l' := [(48, .bool (decide ((lenI x0) ≥ 127))), (3, pB b_1), (0, v0)]) (by exact ⟨rfl, rfl, rfl, trivial⟩)
    refine wp_cond_split (S.eval (show ev _ _ = some (.bool (decide ((lenI x0) ≥ 127))) from rfl)) ?_ ?_
    ·intro hc
     rw [if_pos hc] at h
     refine wp_seq ?_
     refine wp_region_lit ?_
     refine wl_pureK (l' := [(5, .int .i64 9), (4, .slice .none 0 0)]) S tys tys_ok 2 [5, 4] (by kernel_rfl) ?_
     clear S; intro a S
     refine wpList_nil ?_
     refine then_n ?_
     refine wp_ret ?_
     refine then_r ?_
     refine then_r ?_
     replace B_2 := B_2.more
     replace W := W.more
     have O_42 : Ow gt0 33 w_28 w.heap.size (Kx K w.heap.size [.none, some b_1]) (.slice .none 0 0) ([] : List ((Sl (Int)) × Int × Int)) (some 0) := Ow.nil
     obtain rfl := Option.some.inj h
     exact b_ret2 S rfl rfl rfl ⟨_, _, rfl, (O_42.lessO 0 rfl), (RepV.mkInt (by decide)), W.below⟩
    ·intro hc
     rw [if_neg (Bool.eq_false_iff.1 hc)] at h
     refine wp_skip ?_
     refine then_n ?_
     replace S := S.sub (l' := [(3, pB b_1), (0, v0)]) (by exact ⟨rfl, rfl, trivial⟩)
     refine wp_seq ?_
     refine wp_region_lit ?_
     refine wl_pure (l' := [(8, .int .i64 0), (3, pB b_1), (0, v0)]) S tys tys_ok 1 (by kernel_rfl) ?_
     clear S; intro a S
     refine wpList_nil ?_
     refine then_n ?_
     refine wp_seq ?_
     obtain ⟨y_47, ey_47, h⟩ := bindS h
     refine wp_cut_ (fun a_ w_ => St 149 a_ [(0, v0), (3, pB b_1), (8, .int .i64 y_47)] ∧ Wd w w_ [some b_1] ∧ InR .i64 y_47 ∧ RepV (.sl gt0) w_ (Kx K w.heap.size [some b_1]) v0 x0 ∧ Bx gt2 31 w_ (Kx K w.heap.size [some b_1]) b_1 x1) ?_ ?_
     ·refine wp_block ?_
      refine wp_loop_n (fun m_ a_ w_ => ∃ (c_43 : Int) , St 149 a_ [(8, .int .i64 c_43), (3, pB b_1), (0, v0)] ∧ Wd w w_ [some b_1] ∧ InR .i64 c_43 ∧ RepV (.sl gt0) w_ (Kx K w.heap.size [some b_1]) v0 x0 ∧ Bx gt2 31 w_ (Kx K w.heap.size [some b_1]) b_1 x1 ∧ p14_l1 n x0 x1 m_ c_43 = some y_47) n ?_ ?_
      ·skip
       exact ⟨0, ⟨S.sub (by exact ⟨rfl, rfl, rfl, trivial⟩), W, (show InR .i64 0 by decide), R0, B_2, ey_47⟩⟩
      ·clear S W; rintro m_49 a w_51 ⟨c_43, S, W, G_44, R0, B_2, hl_50⟩
       cases m_49 with
       | zero => exact absurd hl_50 (by simp [p14_l1])
       | succ m_49 =>
        refine ⟨m_49, rfl, ?_⟩
        rw [p14_l1] at hl_50
        refine wp_seq ?_
        refine wp_seq ?_
        obtain ⟨q_53, eq_53, hl_50⟩ := bindS hl_50
        obtain ⟨y_55, t_63, HG_54⟩ : ∃ (y_55 : (Sl (Int)) × Int × Int) (t_63 : (Bool)) , ((decide (c_43 < (lenI x0))) = true → (idx x0.xs c_43) = some y_55 ∧ (p28 n y_55.1 x1.2.2.1) = some t_63 ∧ t_63 = q_53) ∧ (¬ (decide (c_43 < (lenI x0))) = true → false = q_53) := by
         by_cases hc : (decide (c_43 < (lenI x0))) = true
         ·rw [if_pos hc] at eq_53
          obtain ⟨y_55, ey_55, eq_53⟩ := bindS eq_53
          obtain ⟨t_63, et_63, eq_53⟩ := bindS eq_53
          exact ⟨y_55, t_63, ⟨fun _ => ⟨ey_55, et_63, Option.some.inj eq_53⟩, fun k_ => absurd hc k_⟩⟩
         ·rw [if_neg hc] at eq_53
          exact ⟨default, default, ⟨fun k_ => absurd k_ hc, fun _ => Option.some.inj eq_53⟩⟩
        have hR : Rel (Kx K w.heap.size [some b_1]) Bl := Bl.rel _
        refine wp_region_all hR [isI .i64 c_43, isRep (.sl gt0) (Kx K w.heap.size [some b_1]) x0, isI .i64 (lenI x0), eqv (.bool (decide (c_43 < (lenI x0)))), eqv (.bool (decide (c_43 < (lenI x0)))), cndF (decide (c_43 < (lenI x0))) true (isRep (.sl gt0) (Kx K w.heap.size [some b_1]) x0), cndF (decide (c_43 < (lenI x0))) true (isI .i64 c_43), cndF (decide (c_43 < (lenI x0))) true (isEl gt0 (Kx K w.heap.size [some b_1]) y_55), cndF (decide (c_43 < (lenI x0))) true (isEl (.sl (.int .u8)) (Kx K w.heap.size [some b_1]) y_55.1), cndF (decide (c_43 < (lenI x0))) true (isRep (.sl (.int .u8)) (Kx K w.heap.size [some b_1]) y_55.1), cndF (decide (c_43 < (lenI x0))) true (eqv (.pointer (some ((⟨b_1, 0, .none⟩ : Addr).add (coff gf2 2))))), cndF (decide (c_43 < (lenI x0))) true (isRep (.sl (.int .u8)) (Kx K w.heap.size [some b_1]) x1.2.2.1), cndF (decide (c_43 < (lenI x0))) true (eqv (.bool t_63)), eqv (.bool q_53)] [[], [], [(1, 50)], [(0, 49), (2, 51)], [(3, 52)], [(4, 53)], [(4, 53)], [(5, 54), (6, 55), (4, 53)], [(7, 56), (4, 53)], [(8, 57), (4, 53)], [(4, 53)], [(10, 59), (4, 53)], [(9, 58), (11, 60), (4, 53)], [(4, 53), (12, 61)]] (by kernel_rfl) (by rw [S.size]; kernel_rfl) (by kernel_rfl) (by kernel_rfl) rfl ⟨stab_I, (stab_rep hR), stab_I, (stab_eqv _), (stab_eqv _), (stab_cnd (stab_rep hR)), (stab_cnd stab_I), (stab_cnd (stab_el hR)), (stab_cnd (stab_el hR)), (stab_cnd (stab_rep hR)), (stab_cnd (stab_eqv _)), (stab_cnd (stab_rep hR)), (stab_cnd (stab_eqv _)), (stab_eqv _), trivial⟩ ?_ ?_
        ·
         refine RunAll.cons (isI .i64 c_43) [] rfl rfl ?_ ?_
         ·intro W_ hW
          have S1 := S
          exact RPost.one (v := .int .i64 c_43) S1 tys tys_ok rfl (by kernel_rfl) S.defers ⟨rfl, G_44⟩ (Below.refl _ _)
         refine RunAll.cons (isRep (.sl gt0) (Kx K w.heap.size [some b_1]) x0) [] rfl rfl ?_ ?_
         ·intro W_ hW
          have S1 := S
          replace R0 := R0.step hW
          exact RPost.one (v := v0) S1 tys tys_ok rfl (by kernel_rfl) S.defers R0 (Below.refl _ _)
         refine RunAll.cons (isI .i64 (lenI x0)) [(isRep (.sl gt0) (Kx K w.heap.size [some b_1]) x0, 50)] rfl rfl ?_ ?_
         ·intro W_ hW
          have S1 := S
          intro v_69 hF_68; replace hF_68 : RepV _ _ _ _ _ := hF_68
          replace S1 := S1.put (by decide : 50 < 149) (v_69)
          refine fill_nil S1 ?_; clear S1; intro a_ S1
          replace W := W.step hW
          have S0 := S.defers; replace S := S1; clear S1
          refine w_go S rfl (op_len (K := _) S rfl ty23 rfl rfl rfl hF_68 ?_)
          clear S; intro a G_70 S
          refine wpList_nil ?_
          exact RPost.mk_ S rfl S0 ⟨rfl, G_70⟩ (Below.refl _ _)
         refine RunAll.cons (eqv (.bool (decide (c_43 < (lenI x0))))) [(isI .i64 c_43, 49), (isI .i64 (lenI x0), 51)] rfl rfl ?_ ?_
         ·intro W_ hW
          have S1 := S
          rintro _ ⟨rfl, hF_71⟩
          replace S1 := S1.put (by decide : 49 < 149) (.int .i64 c_43)
          rintro _ ⟨rfl, hF_73⟩
          replace S1 := S1.put (by decide : 51 < 149) (.int .i64 (lenI x0))
          exact RPost.one (v := .bool (decide (c_43 < (lenI x0)))) S1 tys tys_ok rfl (by kernel_rfl) S.defers rfl (Below.refl _ _)
         refine RunAll.cons (eqv (.bool (decide (c_43 < (lenI x0))))) [(eqv (.bool (decide (c_43 < (lenI x0)))), 52)] rfl rfl ?_ ?_
         ·intro W_ hW
          have S1 := S
          intro v_76 hF_75; obtain rfl : .bool (decide (c_43 < (lenI x0))) = v_76 := Eq.symm hF_75
          replace S1 := S1.put (by decide : 52 < 149) (.bool (decide (c_43 < (lenI x0))))
          exact RPost.one (v := .bool (decide (c_43 < (lenI x0)))) S1 tys tys_ok rfl (by kernel_rfl) S.defers rfl (Below.refl _ _)
         refine RunAll.cons (cndF (decide (c_43 < (lenI x0))) true (isRep (.sl gt0) (Kx K w.heap.size [some b_1]) x0)) [(eqv (.bool (decide (c_43 < (lenI x0)))), 53)] rfl rfl ?_ ?_
         ·intro W_ hW
          by_cases hc0 : (decide (c_43 < (lenI x0))) = true
          ·have hl0 : (decide (c_43 < (lenI x0))) = true := hc0
           have S1 := S
           intro v_78 hF_77; obtain rfl : .bool (decide (c_43 < (lenI x0))) = v_78 := Eq.symm hF_77
           replace S1 := S1.put (by decide : 53 < 149) (.bool (decide (c_43 < (lenI x0))))
           refine fill_nil S1 ?_; clear S1; intro a_ S1
           replace R0 := R0.step hW
           rw [show (decide (c_43 < (lenI x0))) = true from hl0] at S1
           exact RPost.one (v := v0) S1 tys tys_ok rfl (by kernel_rfl) S.defers ⟨fun _ => R0, fun k_ => absurd hc0 k_⟩ (Below.refl _ _)
          ·have hl0 : (decide (c_43 < (lenI x0))) = false := Bool.eq_false_iff.2 hc0
           have S1 := S
           intro v_80 hF_79; obtain rfl : .bool (decide (c_43 < (lenI x0))) = v_80 := Eq.symm hF_79
           replace S1 := S1.put (by decide : 53 < 149) (.bool (decide (c_43 < (lenI x0))))
           refine fill_nil S1 ?_; clear S1; intro a_ S1
           rw [show (decide (c_43 < (lenI x0))) = false from hl0] at S1
           exact RPost.one (v := undef) S1 tys tys_ok rfl (by kernel_rfl) S.defers ⟨fun k_ => absurd k_ hc0, fun _ => rfl⟩ (Below.refl _ _)
         refine RunAll.cons (cndF (decide (c_43 < (lenI x0))) true (isI .i64 c_43)) [(eqv (.bool (decide (c_43 < (lenI x0)))), 53)] rfl rfl ?_ ?_
         ·intro W_ hW
          by_cases hc0 : (decide (c_43 < (lenI x0))) = true
          ·have hl0 : (decide (c_43 < (lenI x0))) = true := hc0
           have S1 := S
           intro v_82 hF_81; obtain rfl : .bool (decide (c_43 < (lenI x0))) = v_82 := Eq.symm hF_81
           replace S1 := S1.put (by decide : 53 < 149) (.bool (decide (c_43 < (lenI x0))))
           refine fill_nil S1 ?_; clear S1; intro a_ S1
           rw [show (decide (c_43 < (lenI x0))) = true from hl0] at S1
           exact RPost.one (v := .int .i64 c_43) S1 tys tys_ok rfl (by kernel_rfl) S.defers ⟨fun _ => ⟨rfl, G_44⟩, fun k_ => absurd hc0 k_⟩ (Below.refl _ _)
          ·have hl0 : (decide (c_43 < (lenI x0))) = false := Bool.eq_false_iff.2 hc0
           have S1 := S
           intro v_84 hF_83; obtain rfl : .bool (decide (c_43 < (lenI x0))) = v_84 := Eq.symm hF_83
           replace S1 := S1.put (by decide : 53 < 149) (.bool (decide (c_43 < (lenI x0))))
           refine fill_nil S1 ?_; clear S1; intro a_ S1
           rw [show (decide (c_43 < (lenI x0))) = false from hl0] at S1
           exact RPost.one (v := undef) S1 tys tys_ok rfl (by kernel_rfl) S.defers ⟨fun k_ => absurd k_ hc0, fun _ => rfl⟩ (Below.refl _ _)
         refine RunAll.cons (cndF (decide (c_43 < (lenI x0))) true (isEl gt0 (Kx K w.heap.size [some b_1]) y_55)) [(cndF (decide (c_43 < (lenI x0))) true (isRep (.sl gt0) (Kx K w.heap.size [some b_1]) x0), 54), (cndF (decide (c_43 < (lenI x0))) true (isI .i64 c_43), 55), (eqv (.bool (decide (c_43 < (lenI x0)))), 53)] rfl rfl ?_ ?_
         ·intro W_ hW
          by_cases hc0 : (decide (c_43 < (lenI x0))) = true
          ·have hl0 : (decide (c_43 < (lenI x0))) = true := hc0
           have S1 := S
           intro v_85 hF_86
           replace hF_86 := cndF.pos hF_86 hc0
           revert hF_86
           revert v_85
           intro v_88 hF_87; replace hF_87 : RepV _ _ _ _ _ := hF_87
           replace S1 := S1.put (by decide : 54 < 149) (v_88)
           intro v_89 hF_90
           replace hF_90 := cndF.pos hF_90 hc0
           revert hF_90
           revert v_89
           rintro _ ⟨rfl, hF_91⟩
           replace S1 := S1.put (by decide : 55 < 149) (.int .i64 c_43)
           intro v_94 hF_93; obtain rfl : .bool (decide (c_43 < (lenI x0))) = v_94 := Eq.symm hF_93
           replace S1 := S1.put (by decide : 53 < 149) (.bool (decide (c_43 < (lenI x0))))
           refine fill_nil S1 ?_; clear S1; intro a_ S1
           replace W := W.step hW
           rw [show (decide (c_43 < (lenI x0))) = true from hl0] at S1
           have S0 := S.defers; replace S := S1; clear S1
           obtain ⟨ey_55, et_63, _⟩ := (HG_54).1 hc0
           refine w_go S rfl (op_indexAddr S rfl ty23 rfl rfl rfl hF_87 rfl ey_55 ?_)
           clear S; intro a p_95 R_96 H_97 S
           refine wpList_nil ?_
           exact RPost.mk_ S rfl S0 ⟨fun _ => ⟨_, rfl, R_96, H_97⟩, fun k_ => absurd hc0 k_⟩ (Below.refl _ _)
          ·have hl0 : (decide (c_43 < (lenI x0))) = false := Bool.eq_false_iff.2 hc0
           have S1 := S
           intro v_98 hF_99
           obtain rfl := cndF.neg hF_99 hc0
           replace S1 := S1.put (by decide : 54 < 149) (undef)
           intro v_100 hF_101
           obtain rfl := cndF.neg hF_101 hc0
           replace S1 := S1.put (by decide : 55 < 149) (undef)
           intro v_103 hF_102; obtain rfl : .bool (decide (c_43 < (lenI x0))) = v_103 := Eq.symm hF_102
           replace S1 := S1.put (by decide : 53 < 149) (.bool (decide (c_43 < (lenI x0))))
           refine fill_nil S1 ?_; clear S1; intro a_ S1
           rw [show (decide (c_43 < (lenI x0))) = false from hl0] at S1
           exact RPost.one (v := undef) S1 tys tys_ok rfl (by kernel_rfl) S.defers ⟨fun k_ => absurd k_ hc0, fun _ => rfl⟩ (Below.refl _ _)
         refine RunAll.cons (cndF (decide (c_43 < (lenI x0))) true (isEl (.sl (.int .u8)) (Kx K w.heap.size [some b_1]) y_55.1)) [(cndF (decide (c_43 < (lenI x0))) true (isEl gt0 (Kx K w.heap.size [some b_1]) y_55), 56), (eqv (.bool (decide (c_43 < (lenI x0)))), 53)] rfl rfl ?_ ?_
         ·intro W_ hW
          by_cases hc0 : (decide (c_43 < (lenI x0))) = true
          ·have hl0 : (decide (c_43 < (lenI x0))) = true := hc0
           have S1 := S
           intro v_104 hF_105
           replace hF_105 := cndF.pos hF_105 hc0
           revert hF_105
           revert v_104
           rintro _ ⟨p_108, rfl, R_109, H_110⟩
           replace S1 := S1.put (by decide : 56 < 149) (.pointer (some p_108))
           intro v_112 hF_111; obtain rfl : .bool (decide (c_43 < (lenI x0))) = v_112 := Eq.symm hF_111
           replace S1 := S1.put (by decide : 53 < 149) (.bool (decide (c_43 < (lenI x0))))
           refine fill_nil S1 ?_; clear S1; intro a_ S1
           rw [show (decide (c_43 < (lenI x0))) = true from hl0] at S1
           exact RPost.one (v := .pointer (some (p_108.add (coff gf0 0)))) S1 tys tys_ok rfl (by kernel_rfl) S.defers ⟨fun _ => ⟨_, rfl, (RepAt.add 0 (RepAt.st (t := gf0) R_109)), (by simpa [Addr.add] using H_110)⟩, fun k_ => absurd hc0 k_⟩ (Below.refl _ _)
          ·have hl0 : (decide (c_43 < (lenI x0))) = false := Bool.eq_false_iff.2 hc0
           have S1 := S
           intro v_113 hF_114
           obtain rfl := cndF.neg hF_114 hc0
           replace S1 := S1.put (by decide : 56 < 149) (undef)
           intro v_116 hF_115; obtain rfl : .bool (decide (c_43 < (lenI x0))) = v_116 := Eq.symm hF_115
           replace S1 := S1.put (by decide : 53 < 149) (.bool (decide (c_43 < (lenI x0))))
           refine fill_nil S1 ?_; clear S1; intro a_ S1
           rw [show (decide (c_43 < (lenI x0))) = false from hl0] at S1
           exact RPost.one (v := undef) S1 tys tys_ok rfl (by kernel_rfl) S.defers ⟨fun k_ => absurd k_ hc0, fun _ => rfl⟩ (Below.refl _ _)
         refine RunAll.cons (cndF (decide (c_43 < (lenI x0))) true (isRep (.sl (.int .u8)) (Kx K w.heap.size [some b_1]) y_55.1)) [(cndF (decide (c_43 < (lenI x0))) true (isEl (.sl (.int .u8)) (Kx K w.heap.size [some b_1]) y_55.1), 57), (eqv (.bool (decide (c_43 < (lenI x0)))), 53)] rfl rfl ?_ ?_
         ·intro W_ hW
          by_cases hc0 : (decide (c_43 < (lenI x0))) = true
          ·have hl0 : (decide (c_43 < (lenI x0))) = true := hc0
           have S1 := S
           intro v_117 hF_118
           replace hF_118 := cndF.pos hF_118 hc0
           revert hF_118
           revert v_117
           rintro _ ⟨p_121, rfl, R_122, H_123⟩
           replace S1 := S1.put (by decide : 57 < 149) (.pointer (some p_121))
           intro v_125 hF_124; obtain rfl : .bool (decide (c_43 < (lenI x0))) = v_125 := Eq.symm hF_124
           replace S1 := S1.put (by decide : 53 < 149) (.bool (decide (c_43 < (lenI x0))))
           refine fill_nil S1 ?_; clear S1; intro a_ S1
           rw [show (decide (c_43 < (lenI x0))) = true from hl0] at S1
           have S0 := S.defers; replace S := S1; clear S1
           obtain ⟨ey_55, et_63, _⟩ := (HG_54).1 hc0
           refine w_go S rfl (op_load (t := (.sl (.int .u8))) (x := y_55.1) S rfl ty25 rfl rfl rfl R_122 ?_)
           clear S; intro a v_126 R_127 S
           refine wpList_nil ?_
           exact RPost.mk_ S rfl S0 ⟨fun _ => R_127, fun k_ => absurd hc0 k_⟩ (Below.refl _ _)
          ·have hl0 : (decide (c_43 < (lenI x0))) = false := Bool.eq_false_iff.2 hc0
           have S1 := S
           intro v_128 hF_129
           obtain rfl := cndF.neg hF_129 hc0
           replace S1 := S1.put (by decide : 57 < 149) (undef)
           intro v_131 hF_130; obtain rfl : .bool (decide (c_43 < (lenI x0))) = v_131 := Eq.symm hF_130
           replace S1 := S1.put (by decide : 53 < 149) (.bool (decide (c_43 < (lenI x0))))
           refine fill_nil S1 ?_; clear S1; intro a_ S1
           rw [show (decide (c_43 < (lenI x0))) = false from hl0] at S1
           exact RPost.one (v := undef) S1 tys tys_ok rfl (by kernel_rfl) S.defers ⟨fun k_ => absurd k_ hc0, fun _ => rfl⟩ (Below.refl _ _)
         refine RunAll.cons (cndF (decide (c_43 < (lenI x0))) true (eqv (.pointer (some ((⟨b_1, 0, .none⟩ : Addr).add (coff gf2 2)))))) [(eqv (.bool (decide (c_43 < (lenI x0)))), 53)] rfl rfl ?_ ?_
         ·intro W_ hW
          by_cases hc0 : (decide (c_43 < (lenI x0))) = true
          ·have hl0 : (decide (c_43 < (lenI x0))) = true := hc0
           have S1 := S
           intro v_133 hF_132; obtain rfl : .bool (decide (c_43 < (lenI x0))) = v_133 := Eq.symm hF_132
           replace S1 := S1.put (by decide : 53 < 149) (.bool (decide (c_43 < (lenI x0))))
           refine fill_nil S1 ?_; clear S1; intro a_ S1
           replace B_2 := B_2.step hW
           rw [show (decide (c_43 < (lenI x0))) = true from hl0] at S1
           exact RPost.one (v := .pointer (some ((⟨b_1, 0, .none⟩ : Addr).add (coff gf2 2)))) S1 tys tys_ok rfl (by kernel_rfl) S.defers ⟨fun _ => rfl, fun k_ => absurd hc0 k_⟩ (Below.refl _ _)
          ·have hl0 : (decide (c_43 < (lenI x0))) = false := Bool.eq_false_iff.2 hc0
           have S1 := S
           intro v_135 hF_134; obtain rfl : .bool (decide (c_43 < (lenI x0))) = v_135 := Eq.symm hF_134
           replace S1 := S1.put (by decide : 53 < 149) (.bool (decide (c_43 < (lenI x0))))
           refine fill_nil S1 ?_; clear S1; intro a_ S1
           rw [show (decide (c_43 < (lenI x0))) = false from hl0] at S1
           exact RPost.one (v := undef) S1 tys tys_ok rfl (by kernel_rfl) S.defers ⟨fun k_ => absurd k_ hc0, fun _ => rfl⟩ (Below.refl _ _)
         refine RunAll.cons (cndF (decide (c_43 < (lenI x0))) true (isRep (.sl (.int .u8)) (Kx K w.heap.size [some b_1]) x1.2.2.1)) [(cndF (decide (c_43 < (lenI x0))) true (eqv (.pointer (some ((⟨b_1, 0, .none⟩ : Addr).add (coff gf2 2))))), 59), (eqv (.bool (decide (c_43 < (lenI x0)))), 53)] rfl rfl ?_ ?_
         ·intro W_ hW
          by_cases hc0 : (decide (c_43 < (lenI x0))) = true
          ·have hl0 : (decide (c_43 < (lenI x0))) = true := hc0
           have S1 := S
           intro v_136 hF_137
           replace hF_137 := cndF.pos hF_137 hc0
           revert hF_137
           revert v_136
           intro v_139 hF_138; obtain rfl : .pointer (some ((⟨b_1, 0, .none⟩ : Addr).add (coff gf2 2))) = v_139 := Eq.symm hF_138
           replace S1 := S1.put (by decide : 59 < 149) (.pointer (some ((⟨b_1, 0, .none⟩ : Addr).add (coff gf2 2))))
           intro v_141 hF_140; obtain rfl : .bool (decide (c_43 < (lenI x0))) = v_141 := Eq.symm hF_140
           replace S1 := S1.put (by decide : 53 < 149) (.bool (decide (c_43 < (lenI x0))))
           refine fill_nil S1 ?_; clear S1; intro a_ S1
           replace B_2 := B_2.step hW
           rw [show (decide (c_43 < (lenI x0))) = true from hl0] at S1
           have S0 := S.defers; replace S := S1; clear S1
           obtain ⟨ey_55, et_63, _⟩ := (HG_54).1 hc0
           refine w_go S rfl (op_load (t := (.sl (.int .u8))) (x := x1.2.2.1) S rfl ty25 rfl rfl rfl (RepAt.add 2 (RepAt.st (t := gf2) B_2.at_)) ?_)
           clear S; intro a v_142 R_143 S
           refine wpList_nil ?_
           exact RPost.mk_ S rfl S0 ⟨fun _ => R_143, fun k_ => absurd hc0 k_⟩ (Below.refl _ _)
          ·have hl0 : (decide (c_43 < (lenI x0))) = false := Bool.eq_false_iff.2 hc0
           have S1 := S
           intro v_144 hF_145
           obtain rfl := cndF.neg hF_145 hc0
           replace S1 := S1.put (by decide : 59 < 149) (undef)
           intro v_147 hF_146; obtain rfl : .bool (decide (c_43 < (lenI x0))) = v_147 := Eq.symm hF_146
           replace S1 := S1.put (by decide : 53 < 149) (.bool (decide (c_43 < (lenI x0))))
           refine fill_nil S1 ?_; clear S1; intro a_ S1
           rw [show (decide (c_43 < (lenI x0))) = false from hl0] at S1
           exact RPost.one (v := undef) S1 tys tys_ok rfl (by kernel_rfl) S.defers ⟨fun k_ => absurd k_ hc0, fun _ => rfl⟩ (Below.refl _ _)
         refine RunAll.cons (cndF (decide (c_43 < (lenI x0))) true (eqv (.bool t_63))) [(cndF (decide (c_43 < (lenI x0))) true (isRep (.sl (.int .u8)) (Kx K w.heap.size [some b_1]) y_55.1), 58), (cndF (decide (c_43 < (lenI x0))) true (isRep (.sl (.int .u8)) (Kx K w.heap.size [some b_1]) x1.2.2.1), 60), (eqv (.bool (decide (c_43 < (lenI x0)))), 53)] rfl rfl ?_ ?_
         ·intro W_ hW
          by_cases hc0 : (decide (c_43 < (lenI x0))) = true
          ·have hl0 : (decide (c_43 < (lenI x0))) = true := hc0
           have S1 := S
           intro v_148 hF_149
           replace hF_149 := cndF.pos hF_149 hc0
           revert hF_149
           revert v_148
           intro v_151 hF_150; replace hF_150 : RepV _ _ _ _ _ := hF_150
           replace S1 := S1.put (by decide : 58 < 149) (v_151)
           intro v_152 hF_153
           replace hF_153 := cndF.pos hF_153 hc0
           revert hF_153
           revert v_152
           intro v_155 hF_154; replace hF_154 : RepV _ _ _ _ _ := hF_154
           replace S1 := S1.put (by decide : 60 < 149) (v_155)
           intro v_157 hF_156; obtain rfl : .bool (decide (c_43 < (lenI x0))) = v_157 := Eq.symm hF_156
           replace S1 := S1.put (by decide : 53 < 149) (.bool (decide (c_43 < (lenI x0))))
           refine fill_nil S1 ?_; clear S1; intro a_ S1
           replace W := W.step hW
           rw [show (decide (c_43 < (lenI x0))) = true from hl0] at S1
           have S0 := S.defers; replace S := S1; clear S1
           obtain ⟨ey_55, et_63, _⟩ := (HG_54).1 hc0
           refine w_go S rfl (op_call (vs := [v_151, v_155]) S rfl cb28 rfl rfl rfl (c28 (Kx K w.heap.size [some b_1]) n W_ y_55.1 _ hF_150 x1.2.2.1 _ hF_154 et_63) ?_)
           rintro _ w_161 ⟨v_158, rfl, R_159, hb_160⟩; refine ⟨_, rfl, ?_⟩
           replace R_159 := RepV.back R_159 W
           clear S; intro a S
           obtain rfl := RepV.bool R_159
           refine wpList_nil ?_
           exact RPost.mk_ S rfl S0 ⟨fun _ => rfl, fun k_ => absurd hc0 k_⟩ (hb_160)
          ·have hl0 : (decide (c_43 < (lenI x0))) = false := Bool.eq_false_iff.2 hc0
           have S1 := S
           intro v_162 hF_163
           obtain rfl := cndF.neg hF_163 hc0
           replace S1 := S1.put (by decide : 58 < 149) (undef)
           intro v_164 hF_165
           obtain rfl := cndF.neg hF_165 hc0
           replace S1 := S1.put (by decide : 60 < 149) (undef)
           intro v_167 hF_166; obtain rfl : .bool (decide (c_43 < (lenI x0))) = v_167 := Eq.symm hF_166
           replace S1 := S1.put (by decide : 53 < 149) (.bool (decide (c_43 < (lenI x0))))
           refine fill_nil S1 ?_; clear S1; intro a_ S1
           rw [show (decide (c_43 < (lenI x0))) = false from hl0] at S1
           exact RPost.one (v := undef) S1 tys tys_ok rfl (by kernel_rfl) S.defers ⟨fun k_ => absurd k_ hc0, fun _ => rfl⟩ (Below.refl _ _)
         refine RunAll.cons (eqv (.bool q_53)) [(eqv (.bool (decide (c_43 < (lenI x0)))), 53), (cndF (decide (c_43 < (lenI x0))) true (eqv (.bool t_63)), 61)] rfl rfl ?_ ?_
         ·intro W_ hW
          by_cases hc0 : (decide (c_43 < (lenI x0))) = true
          ·have hl0 : (decide (c_43 < (lenI x0))) = true := hc0
           have S1 := S
           intro v_169 hF_168; obtain rfl : .bool (decide (c_43 < (lenI x0))) = v_169 := Eq.symm hF_168
           replace S1 := S1.put (by decide : 53 < 149) (.bool (decide (c_43 < (lenI x0))))
           intro v_170 hF_171
           replace hF_171 := cndF.pos hF_171 hc0
           revert hF_171
           revert v_170
           intro v_173 hF_172; obtain rfl : .bool t_63 = v_173 := Eq.symm hF_172
           replace S1 := S1.put (by decide : 61 < 149) (.bool t_63)
           refine fill_nil S1 ?_; clear S1; intro a_ S1
           rw [show (decide (c_43 < (lenI x0))) = true from hl0] at S1
           exact RPost.one (v := .bool t_63) S1 tys tys_ok rfl (by kernel_rfl) S.defers (congrArg Value.bool ((HG_54).1 hc0).2.2) (Below.refl _ _)
          ·have hl0 : (decide (c_43 < (lenI x0))) = false := Bool.eq_false_iff.2 hc0
           have S1 := S
           intro v_175 hF_174; obtain rfl : .bool (decide (c_43 < (lenI x0))) = v_175 := Eq.symm hF_174
           replace S1 := S1.put (by decide : 53 < 149) (.bool (decide (c_43 < (lenI x0))))
           intro v_176 hF_177
           obtain rfl := cndF.neg hF_177 hc0
           replace S1 := S1.put (by decide : 61 < 149) (undef)
           refine fill_nil S1 ?_; clear S1; intro a_ S1
           rw [show (decide (c_43 < (lenI x0))) = false from hl0] at S1
           exact RPost.one (v := .bool false) S1 tys tys_ok rfl (by kernel_rfl) S.defers (congrArg Value.bool ((HG_54).2 hc0)) (Below.refl _ _)
         exact trivial
        intro w_178 hb_179
        refine EndE.some_ rfl ?_
        rintro _ ⟨rfl, hF_180⟩
        replace S := S.put (by decide : 49 < 149) (.int .i64 c_43)
        refine EndE.some_ rfl ?_
        intro v_183 hF_182; replace hF_182 : RepV _ _ _ _ _ := hF_182
        replace S := S.put (by decide : 50 < 149) (v_183)
        refine EndE.some_ rfl ?_
        rintro _ ⟨rfl, hF_184⟩
        replace S := S.put (by decide : 51 < 149) (.int .i64 (lenI x0))
        refine EndE.some_ rfl ?_
        intro v_187 hF_186; obtain rfl : .bool (decide (c_43 < (lenI x0))) = v_187 := Eq.symm hF_186
        replace S := S.put (by decide : 52 < 149) (.bool (decide (c_43 < (lenI x0))))
        refine EndE.some_ rfl ?_
        intro v_189 hF_188; obtain rfl : .bool (decide (c_43 < (lenI x0))) = v_189 := Eq.symm hF_188
        replace S := S.put (by decide : 53 < 149) (.bool (decide (c_43 < (lenI x0))))
        refine EndE.some_ rfl ?_
        intro v_190 _
        replace S := S.put (by decide : 54 < 149) (v_190)
        refine EndE.some_ rfl ?_
        intro v_191 _
        replace S := S.put (by decide : 55 < 149) (v_191)
        refine EndE.some_ rfl ?_
        intro v_192 _
        replace S := S.put (by decide : 56 < 149) (v_192)
        refine EndE.some_ rfl ?_
        intro v_193 _
        replace S := S.put (by decide : 57 < 149) (v_193)
        refine EndE.some_ rfl ?_
        intro v_194 _
        replace S := S.put (by decide : 58 < 149) (v_194)
        refine EndE.some_ rfl ?_
        intro v_195 _
        replace S := S.put (by decide : 59 < 149) (v_195)
        refine EndE.some_ rfl ?_
        intro v_196 _
        replace S := S.put (by decide : 60 < 149) (v_196)
        refine EndE.some_ rfl ?_
        intro v_197 _
        replace S := S.put (by decide : 61 < 149) (v_197)
        refine EndE.some_ rfl ?_
        intro v_199 hF_198; obtain rfl : .bool q_53 = v_199 := Eq.symm hF_198
        replace S := S.put (by decide : 62 < 149) (.bool q_53)
        refine endE_nil S ?_; clear S; intro a S
        replace R0 := R0.step hb_179
        replace B_2 := B_2.step hb_179
        replace W := W.step hb_179
        refine then_n ?_
        replace S := S.sub (l' := [(62, .bool q_53), (8, .int .i64 c_43), (3, pB b_1), (0, v0)]) (by exact ⟨rfl, rfl, rfl, rfl, trivial⟩)
        refine wp_cond_split (S.eval (show ev _ _ = some (.bool q_53) from rfl)) ?_ ?_
        ·intro hc
         rw [if_pos hc] at hl_50
         refine wp_skip ?_
         refine then_n ?_
         replace S := S.sub (l' := [(8, .int .i64 c_43), (3, pB b_1), (0, v0)]) (by exact ⟨rfl, rfl, rfl, trivial⟩)
         refine wp_block ?_
         refine wp_region_lit ?_
         refine wl_pure (l' := [(63, .int .i64 c_43), (8, .int .i64 c_43), (3, pB b_1), (0, v0)]) S tys tys_ok 1 (by kernel_rfl) ?_
         clear S; intro a S
         obtain ⟨x_200, ex_200, hl_50⟩ := bindS hl_50
         refine w_go S rfl (op_arith S .i64 (c_43 + 1) rfl (.inl rfl) rfl rfl rfl rfl ex_200 ?_)
         clear S; intro a S
         refine wl_pure (l' := [(8, .int .i64 x_200), (64, .int .i64 x_200), (63, .int .i64 c_43), (8, .int .i64 c_43), (3, pB b_1), (0, v0)]) S tys tys_ok 1 (by kernel_rfl) ?_
         clear S; intro a S
         refine wpList_nil ?_
         refine blk_n ?_
         refine then_n ?_
         exact ⟨x_200, ⟨S.sub (by exact ⟨rfl, rfl, rfl, trivial⟩), W, (ckI_some ex_200).2.1, R0, B_2, hl_50⟩⟩
        ·intro hc
         rw [if_neg (Bool.eq_false_iff.1 hc)] at hl_50
         refine wp_exit ?_
         refine then_x ?_
         refine then_x ?_
         refine blk_hit ?_
         refine then_n ?_
         obtain rfl := Option.some.inj hl_50
         exact ⟨S.sub (by exact ⟨rfl, rfl, rfl, trivial⟩), W, G_44, R0, B_2⟩
     clear S W; rintro a w_201 ⟨S, W, G_48, R0, B_2⟩
     refine then_n ?_
     refine wp_seq ?_
     obtain ⟨j_202, ej_202, h⟩ := bindS h
     refine wp_cut_ (fun a_ w_ => ∃ (v_203 : Value), St 149 a_ [(5, .int .i64 0), (4, v_203)] ∧ Wd w w_ [v_203.ownBlock, some b_1] ∧ Bx gt2 31 w_ (Kx K w.heap.size [v_203.ownBlock, some b_1]) b_1 x1 ∧ Ow gt0 33 w_ w.heap.size (Kx K w.heap.size [v_203.ownBlock, some b_1]) v_203 j_202 .none) ?_ ?_
     ·
      replace S : St 149 a [(0, v0), (3, pB b_1), (8, .int .i64 y_47)] := S.sub (by exact ⟨rfl, rfl, rfl, trivial⟩)
      refine wp_region_ord 16 (by kernel_rfl) rfl (by repeat (first | exact hq_body | refine hq_then ?_ | refine hq_blk ?_)) ?_; intro w_205 hb_206 hQ_
      replace R0 := R0.step hb_206
      replace B_2 := B_2.step hb_206
      replace W := W.step hb_206
      obtain ⟨s_213, es_213, ej_202⟩ := bindS ej_202
      obtain ⟨l_214, el_214, ej_202⟩ := bindS ej_202
      obtain ⟨l_227, el_227, ej_202⟩ := bindS ej_202
      obtain ⟨s_234, es_234, ej_202⟩ := bindS ej_202
      obtain ⟨l_235, el_235, ej_202⟩ := bindS ej_202
      obtain rfl := Option.some.inj ej_202
      refine an_pures (k := 11) (l1 := [(76, .int .i64 y_47), (75, v0), (70, .pointer (some ((⟨b_1, 0, .none⟩ : Addr).add (coff gf2 2)))), (67, .int .i64 y_47), (66, v0), (0, v0), (3, pB b_1), (8, .int .i64 y_47)]) tys tys_ok (by kernel_rfl) hQ_ [1, 2, 5, 10, 11] S (by kernel_rfl) (by kernel_rfl) ?_; clear S; intro a S
      refine an_first (k := 10) (i := 3) (by kernel_rfl) hQ_ (by kernel_rfl) rfl rfl S rfl (op_slice S rfl ty23 rfl rfl rfl R0 (.inl ⟨rfl, rfl⟩) (.inr ⟨_, _, rfl, rfl⟩) es_213 ?_)
      clear S; intro a v_240 R_241 S
      intro _
      refine an_first (k := 9) (i := 12) (by kernel_rfl) hQ_ (by kernel_rfl) rfl rfl S rfl (op_slice S rfl ty23 rfl rfl rfl R0 (.inr ⟨_, _, rfl, rfl⟩) (.inl ⟨rfl, rfl⟩) es_234 ?_)
      clear S; intro a v_242 R_243 S
      intro _
      refine an_fork (k := 8) (is := [0, 6]) (by kernel_rfl) rfl ⟨?_, ?_, trivial⟩
      ·
       refine an_step (i := 0) rfl S rfl (op_row0 (K := K) (e := gt0) (E := 33) S W rfl ty23 un23 rfl rfl ?_)
       clear S; intro a w_245 b_244 hb_246 O_247 S
       replace R0 := R0.box hb_246
       replace R_241 := R_241.box hb_246
       replace R_243 := R_243.box hb_246
       replace B_2 := B_2.box hb_246
       replace W := W.box hb_246
       replace O_247 : Ow gt0 33 w_245 w.heap.size (Kx K w.heap.size [some b_244, some b_1]) (.slice (some ⟨b_244, 0, .none⟩) 0 0) ([] : List ((Sl (Int)) × Int × Int)) (some 0) := O_247
       refine an_fork (k := 7) (is := [4, 6]) (by kernel_rfl) rfl ⟨?_, ?_, trivial⟩
       ·
        refine an_step (i := 4) rfl S rfl (op_append S W (E := 33) 0 rfl ty23 un23 by23 rfl rfl rfl rfl O_247 rfl R_241 el_214 ?_)
        clear S; intro a w_249 v_248 A_250 O_251 S
        replace R0 : RepV (.sl gt0) w_249 (Kx K w.heap.size [v_248.ownBlock, some b_1]) v0 x0 := R0.apd A_250 (i := 0) rfl
        replace R_241 : RepV (.sl gt0) w_249 (Kx K w.heap.size [v_248.ownBlock, some b_1]) v_240 s_213 := R_241.apd A_250 (i := 0) rfl
        replace R_243 : RepV (.sl gt0) w_249 (Kx K w.heap.size [v_248.ownBlock, some b_1]) v_242 s_234 := R_243.apd A_250 (i := 0) rfl
        replace B_2 : Bx gt2 31 w_249 (Kx K w.heap.size [v_248.ownBlock, some b_1]) b_1 x1 := B_2.apd W A_250 (i := 0) rfl (j := 1) rfl (by decide)
        replace W : Wd w w_249 [v_248.ownBlock, some b_1] := W.apd A_250 (i := 0) rfl
        replace O_251 : Ow gt0 33 w_249 w.heap.size (Kx K w.heap.size [v_248.ownBlock, some b_1]) v_248 l_214 (capA (some 0) l_214.length) := O_251
        refine an_go (k := 6) (i := 6) (by kernel_rfl) rfl S rfl (op_load (t := (.sl (.int .u8))) (x := x1.2.2.1) S rfl ty25 rfl rfl rfl (RepAt.add 2 (RepAt.st (t := gf2) B_2.at_)) ?_)
        clear S; intro a v_252 R_253 S
        refine an_go (k := 5) (i := 7) (by kernel_rfl) rfl S rfl (op_build (K := (Kx K w.heap.size [v_248.ownBlock, some b_1])) (f := gf0) (z0 := (⟨[], some 0⟩, 0, 0)) (x := (x1.2.2.1, 1, 0)) (vs := [v_252, .int .u8 1]) S _ rfl ty33 z33 (fun w K => ⟨[.slice .none 0 0], [.int .u8 0, .int .u8 0], rfl, ⟨.none, 0, 0, rfl, rfl, Nat.le_refl _, by decide, fun k h => Option.some.inj h, .inl rfl⟩, ⟨[.int .u8 0], [.int .u8 0], rfl, ⟨rfl, by decide⟩, ⟨rfl, by decide⟩⟩⟩) rfl rfl rfl [(0, v_252), (1, .int .u8 1)] rfl ⟨_, R_253, rfl, rfl, ⟨_, (RepV.mkInt (by decide)), rfl, rfl, rfl⟩⟩ ?_)
        clear S; intro a v_254 R_255 S
        refine an_go (k := 4) (i := 8) (by kernel_rfl) rfl S rfl (op_buildSlice (K := K) (e := gt0) (vs := [v_254]) (xs := [(x1.2.2.1, 1, 0)]) S W rfl ty23 rfl rfl (by kernel_rfl) rfl rfl rfl rfl rfl ⟨R_255, trivial⟩ ?_)
        clear S; intro a w_259 v_256 hb_258 R_257 S
        replace R0 := R0.step hb_258
        replace R_241 := R_241.step hb_258
        replace R_243 := R_243.step hb_258
        replace R_253 := R_253.step hb_258
        replace R_255 := R_255.step hb_258
        replace B_2 := B_2.step hb_258
        replace O_251 := O_251.step hb_258
        replace W := W.step hb_258
        refine an_go (k := 3) (i := 9) (by kernel_rfl) rfl S rfl (op_append S W (E := 33) 0 rfl ty23 un23 by23 rfl rfl rfl rfl O_251 rfl R_257 el_227 ?_)
        clear S; intro a w_261 v_260 A_262 O_263 S
        replace R0 : RepV (.sl gt0) w_261 (Kx K w.heap.size [v_260.ownBlock, some b_1]) v0 x0 := R0.apd A_262 (i := 0) rfl
        replace R_241 : RepV (.sl gt0) w_261 (Kx K w.heap.size [v_260.ownBlock, some b_1]) v_240 s_213 := R_241.apd A_262 (i := 0) rfl
        replace R_243 : RepV (.sl gt0) w_261 (Kx K w.heap.size [v_260.ownBlock, some b_1]) v_242 s_234 := R_243.apd A_262 (i := 0) rfl
        replace R_253 : RepV (.sl (.int .u8)) w_261 (Kx K w.heap.size [v_260.ownBlock, some b_1]) v_252 x1.2.2.1 := R_253.apd A_262 (i := 0) rfl
        replace R_255 : RepV gt0 w_261 (Kx K w.heap.size [v_260.ownBlock, some b_1]) v_254 (x1.2.2.1, 1, 0) := R_255.apd A_262 (i := 0) rfl
        replace R_257 : RepV (.sl gt0) w_261 (Kx K w.heap.size [v_260.ownBlock, some b_1]) v_256 (⟨[(x1.2.2.1, 1, 0)], some 1⟩ : Sl ((Sl (Int)) × Int × Int)) := R_257.apd A_262 (i := 0) rfl
        replace B_2 : Bx gt2 31 w_261 (Kx K w.heap.size [v_260.ownBlock, some b_1]) b_1 x1 := B_2.apd W A_262 (i := 0) rfl (j := 1) rfl (by decide)
        replace W : Wd w w_261 [v_260.ownBlock, some b_1] := W.apd A_262 (i := 0) rfl
        replace O_263 : Ow gt0 33 w_261 w.heap.size (Kx K w.heap.size [v_260.ownBlock, some b_1]) v_260 l_227 (capA (capA (some 0) l_214.length) l_227.length) := O_263
        refine an_go (k := 2) (i := 13) (by kernel_rfl) rfl S rfl (op_append S W (E := 33) 0 rfl ty23 un23 by23 rfl rfl rfl rfl O_263 rfl R_243 el_235 ?_)
        clear S; intro a w_265 v_264 A_266 O_267 S
        replace R0 : RepV (.sl gt0) w_265 (Kx K w.heap.size [v_264.ownBlock, some b_1]) v0 x0 := R0.apd A_266 (i := 0) rfl
        replace R_241 : RepV (.sl gt0) w_265 (Kx K w.heap.size [v_264.ownBlock, some b_1]) v_240 s_213 := R_241.apd A_266 (i := 0) rfl
        replace R_243 : RepV (.sl gt0) w_265 (Kx K w.heap.size [v_264.ownBlock, some b_1]) v_242 s_234 := R_243.apd A_266 (i := 0) rfl
        replace R_253 : RepV (.sl (.int .u8)) w_265 (Kx K w.heap.size [v_264.ownBlock, some b_1]) v_252 x1.2.2.1 := R_253.apd A_266 (i := 0) rfl
        replace R_255 : RepV gt0 w_265 (Kx K w.heap.size [v_264.ownBlock, some b_1]) v_254 (x1.2.2.1, 1, 0) := R_255.apd A_266 (i := 0) rfl
        replace R_257 : RepV (.sl gt0) w_265 (Kx K w.heap.size [v_264.ownBlock, some b_1]) v_256 (⟨[(x1.2.2.1, 1, 0)], some 1⟩ : Sl ((Sl (Int)) × Int × Int)) := R_257.apd A_266 (i := 0) rfl
        replace B_2 : Bx gt2 31 w_265 (Kx K w.heap.size [v_264.ownBlock, some b_1]) b_1 x1 := B_2.apd W A_266 (i := 0) rfl (j := 1) rfl (by decide)
        replace W : Wd w w_265 [v_264.ownBlock, some b_1] := W.apd A_266 (i := 0) rfl
        replace O_267 : Ow gt0 33 w_265 w.heap.size (Kx K w.heap.size [v_264.ownBlock, some b_1]) v_264 l_235 (capA (capA (capA (some 0) l_214.length) l_227.length) l_235.length) := O_267
        refine an_pures (k := 0) (l1 := [(5, .int .i64 0), (4, v_264), (78, v_264), (74, v_260), (73, v_256), (72, v_254), (71, v_252), (69, v_248), (65, (.slice (some ⟨b_244, 0, .none⟩) 0 0)), (77, v_242), (68, v_240), (76, .int .i64 y_47), (75, v0), (70, .pointer (some ((⟨b_1, 0, .none⟩ : Addr).add (coff gf2 2)))), (67, .int .i64 y_47), (66, v0), (0, v0), (3, pB b_1), (8, .int .i64 y_47)]) tys tys_ok (by kernel_rfl) hQ_ [14, 15] S (by kernel_rfl) (by kernel_rfl) ?_; clear S; intro a S
        refine an_end (by kernel_rfl) ?_
        refine then_n ?_
        exact ⟨v_264, S.sub (by exact ⟨rfl, rfl, trivial⟩), W, B_2, O_267.forget⟩
       ·
        refine an_step (i := 6) rfl S rfl (op_load (t := (.sl (.int .u8))) (x := x1.2.2.1) S rfl ty25 rfl rfl rfl (RepAt.add 2 (RepAt.st (t := gf2) B_2.at_)) ?_)
        clear S; intro a v_268 R_269 S
        refine an_fork (k := 6) (is := [4, 7]) (by kernel_rfl) rfl ⟨?_, ?_, trivial⟩
        ·
         refine an_step (i := 4) rfl S rfl (op_append S W (E := 33) 0 rfl ty23 un23 by23 rfl rfl rfl rfl O_247 rfl R_241 el_214 ?_)
         clear S; intro a w_271 v_270 A_272 O_273 S
         replace R0 : RepV (.sl gt0) w_271 (Kx K w.heap.size [v_270.ownBlock, some b_1]) v0 x0 := R0.apd A_272 (i := 0) rfl
         replace R_241 : RepV (.sl gt0) w_271 (Kx K w.heap.size [v_270.ownBlock, some b_1]) v_240 s_213 := R_241.apd A_272 (i := 0) rfl
         replace R_243 : RepV (.sl gt0) w_271 (Kx K w.heap.size [v_270.ownBlock, some b_1]) v_242 s_234 := R_243.apd A_272 (i := 0) rfl
         replace R_269 : RepV (.sl (.int .u8)) w_271 (Kx K w.heap.size [v_270.ownBlock, some b_1]) v_268 x1.2.2.1 := R_269.apd A_272 (i := 0) rfl
         replace B_2 : Bx gt2 31 w_271 (Kx K w.heap.size [v_270.ownBlock, some b_1]) b_1 x1 := B_2.apd W A_272 (i := 0) rfl (j := 1) rfl (by decide)
         replace W : Wd w w_271 [v_270.ownBlock, some b_1] := W.apd A_272 (i := 0) rfl
         replace O_273 : Ow gt0 33 w_271 w.heap.size (Kx K w.heap.size [v_270.ownBlock, some b_1]) v_270 l_214 (capA (some 0) l_214.length) := O_273
         refine an_go (k := 5) (i := 7) (by kernel_rfl) rfl S rfl (op_build (K := (Kx K w.heap.size [v_270.ownBlock, some b_1])) (f := gf0) (z0 := (⟨[], some 0⟩, 0, 0)) (x := (x1.2.2.1, 1, 0)) (vs := [v_268, .int .u8 1]) S _ rfl ty33 z33 (fun w K => ⟨[.slice .none 0 0], [.int .u8 0, .int .u8 0], rfl, ⟨.none, 0, 0, rfl, rfl, Nat.le_refl _, by decide, fun k h => Option.some.inj h, .inl rfl⟩, ⟨[.int .u8 0], [.int .u8 0], rfl, ⟨rfl, by decide⟩, ⟨rfl, by decide⟩⟩⟩) rfl rfl rfl [(0, v_268), (1, .int .u8 1)] rfl ⟨_, R_269, rfl, rfl, ⟨_, (RepV.mkInt (by decide)), rfl, rfl, rfl⟩⟩ ?_)
         clear S; intro a v_274 R_275 S
         refine an_go (k := 4) (i := 8) (by kernel_rfl) rfl S rfl (op_buildSlice (K := K) (e := gt0) (vs := [v_274]) (xs := [(x1.2.2.1, 1, 0)]) S W rfl ty23 rfl rfl (by kernel_rfl) rfl rfl rfl rfl rfl ⟨R_275, trivial⟩ ?_)
         clear S; intro a w_279 v_276 hb_278 R_277 S
         replace R0 := R0.step hb_278
         replace R_241 := R_241.step hb_278
         replace R_243 := R_243.step hb_278
         replace R_269 := R_269.step hb_278
         replace R_275 := R_275.step hb_278
         replace B_2 := B_2.step hb_278
         replace O_273 := O_273.step hb_278
         replace W := W.step hb_278
         refine an_go (k := 3) (i := 9) (by kernel_rfl) rfl S rfl (op_append S W (E := 33) 0 rfl ty23 un23 by23 rfl rfl rfl rfl O_273 rfl R_277 el_227 ?_)
         clear S; intro a w_281 v_280 A_282 O_283 S
         replace R0 : RepV (.sl gt0) w_281 (Kx K w.heap.size [v_280.ownBlock, some b_1]) v0 x0 := R0.apd A_282 (i := 0) rfl
         replace R_241 : RepV (.sl gt0) w_281 (Kx K w.heap.size [v_280.ownBlock, some b_1]) v_240 s_213 := R_241.apd A_282 (i := 0) rfl
         replace R_243 : RepV (.sl gt0) w_281 (Kx K w.heap.size [v_280.ownBlock, some b_1]) v_242 s_234 := R_243.apd A_282 (i := 0) rfl
         replace R_269 : RepV (.sl (.int .u8)) w_281 (Kx K w.heap.size [v_280.ownBlock, some b_1]) v_268 x1.2.2.1 := R_269.apd A_282 (i := 0) rfl
         replace R_275 : RepV gt0 w_281 (Kx K w.heap.size [v_280.ownBlock, some b_1]) v_274 (x1.2.2.1, 1, 0) := R_275.apd A_282 (i := 0) rfl
         replace R_277 : RepV (.sl gt0) w_281 (Kx K w.heap.size [v_280.ownBlock, some b_1]) v_276 (⟨[(x1.2.2.1, 1, 0)], some 1⟩ : Sl ((Sl (Int)) × Int × Int)) := R_277.apd A_282 (i := 0) rfl
         replace B_2 : Bx gt2 31 w_281 (Kx K w.heap.size [v_280.ownBlock, some b_1]) b_1 x1 := B_2.apd W A_282 (i := 0) rfl (j := 1) rfl (by decide)
         replace W : Wd w w_281 [v_280.ownBlock, some b_1] := W.apd A_282 (i := 0) rfl
         replace O_283 : Ow gt0 33 w_281 w.heap.size (Kx K w.heap.size [v_280.ownBlock, some b_1]) v_280 l_227 (capA (capA (some 0) l_214.length) l_227.length) := O_283
         refine an_go (k := 2) (i := 13) (by kernel_rfl) rfl S rfl (op_append S W (E := 33) 0 rfl ty23 un23 by23 rfl rfl rfl rfl O_283 rfl R_243 el_235 ?_)
         clear S; intro a w_285 v_284 A_286 O_287 S
         replace R0 : RepV (.sl gt0) w_285 (Kx K w.heap.size [v_284.ownBlock, some b_1]) v0 x0 := R0.apd A_286 (i := 0) rfl
         replace R_241 : RepV (.sl gt0) w_285 (Kx K w.heap.size [v_284.ownBlock, some b_1]) v_240 s_213 := R_241.apd A_286 (i := 0) rfl
         replace R_243 : RepV (.sl gt0) w_285 (Kx K w.heap.size [v_284.ownBlock, some b_1]) v_242 s_234 := R_243.apd A_286 (i := 0) rfl
         replace R_269 : RepV (.sl (.int .u8)) w_285 (Kx K w.heap.size [v_284.ownBlock, some b_1]) v_268 x1.2.2.1 := R_269.apd A_286 (i := 0) rfl
         replace R_275 : RepV gt0 w_285 (Kx K w.heap.size [v_284.ownBlock, some b_1]) v_274 (x1.2.2.1, 1, 0) := R_275.apd A_286 (i := 0) rfl
         replace R_277 : RepV (.sl gt0) w_285 (Kx K w.heap.size [v_284.ownBlock, some b_1]) v_276 (⟨[(x1.2.2.1, 1, 0)], some 1⟩ : Sl ((Sl (Int)) × Int × Int)) := R_277.apd A_286 (i := 0) rfl
         replace B_2 : Bx gt2 31 w_285 (Kx K w.heap.size [v_284.ownBlock, some b_1]) b_1 x1 := B_2.apd W A_286 (i := 0) rfl (j := 1) rfl (by decide)
         replace W : Wd w w_285 [v_284.ownBlock, some b_1] := W.apd A_286 (i := 0) rfl
         replace O_287 : Ow gt0 33 w_285 w.heap.size (Kx K w.heap.size [v_284.ownBlock, some b_1]) v_284 l_235 (capA (capA (capA (some 0) l_214.length) l_227.length) l_235.length) := O_287
         refine an_pures (k := 0) (l1 := [(5, .int .i64 0), (4, v_284), (78, v_284), (74, v_280), (73, v_276), (72, v_274), (69, v_270), (71, v_268), (65, (.slice (some ⟨b_244, 0, .none⟩) 0 0)), (77, v_242), (68, v_240), (76, .int .i64 y_47), (75, v0), (70, .pointer (some ((⟨b_1, 0, .none⟩ : Addr).add (coff gf2 2)))), (67, .int .i64 y_47), (66, v0), (0, v0), (3, pB b_1), (8, .int .i64 y_47)]) tys tys_ok (by kernel_rfl) hQ_ [14, 15] S (by kernel_rfl) (by kernel_rfl) ?_; clear S; intro a S
         refine an_end (by kernel_rfl) ?_
         refine then_n ?_
         exact ⟨v_284, S.sub (by exact ⟨rfl, rfl, trivial⟩), W, B_2, O_287.forget⟩
        ·
         refine an_step (i := 7) rfl S rfl (op_build (K := (Kx K w.heap.size [some b_244, some b_1])) (f := gf0) (z0 := (⟨[], some 0⟩, 0, 0)) (x := (x1.2.2.1, 1, 0)) (vs := [v_268, .int .u8 1]) S _ rfl ty33 z33 (fun w K => ⟨[.slice .none 0 0], [.int .u8 0, .int .u8 0], rfl, ⟨.none, 0, 0, rfl, rfl, Nat.le_refl _, by decide, fun k h => Option.some.inj h, .inl rfl⟩, ⟨[.int .u8 0], [.int .u8 0], rfl, ⟨rfl, by decide⟩, ⟨rfl, by decide⟩⟩⟩) rfl rfl rfl [(0, v_268), (1, .int .u8 1)] rfl ⟨_, R_269, rfl, rfl, ⟨_, (RepV.mkInt (by decide)), rfl, rfl, rfl⟩⟩ ?_)
         clear S; intro a v_288 R_289 S
         refine an_fork (k := 5) (is := [4, 8]) (by kernel_rfl) rfl ⟨?_, ?_, trivial⟩
         ·
          refine an_step (i := 4) rfl S rfl (op_append S W (E := 33) 0 rfl ty23 un23 by23 rfl rfl rfl rfl O_247 rfl R_241 el_214 ?_)
          clear S; intro a w_291 v_290 A_292 O_293 S
          replace R0 : RepV (.sl gt0) w_291 (Kx K w.heap.size [v_290.ownBlock, some b_1]) v0 x0 := R0.apd A_292 (i := 0) rfl
          replace R_241 : RepV (.sl gt0) w_291 (Kx K w.heap.size [v_290.ownBlock, some b_1]) v_240 s_213 := R_241.apd A_292 (i := 0) rfl
          replace R_243 : RepV (.sl gt0) w_291 (Kx K w.heap.size [v_290.ownBlock, some b_1]) v_242 s_234 := R_243.apd A_292 (i := 0) rfl
          replace R_269 : RepV (.sl (.int .u8)) w_291 (Kx K w.heap.size [v_290.ownBlock, some b_1]) v_268 x1.2.2.1 := R_269.apd A_292 (i := 0) rfl
          replace R_289 : RepV gt0 w_291 (Kx K w.heap.size [v_290.ownBlock, some b_1]) v_288 (x1.2.2.1, 1, 0) := R_289.apd A_292 (i := 0) rfl
          replace B_2 : Bx gt2 31 w_291 (Kx K w.heap.size [v_290.ownBlock, some b_1]) b_1 x1 := B_2.apd W A_292 (i := 0) rfl (j := 1) rfl (by decide)
          replace W : Wd w w_291 [v_290.ownBlock, some b_1] := W.apd A_292 (i := 0) rfl
          replace O_293 : Ow gt0 33 w_291 w.heap.size (Kx K w.heap.size [v_290.ownBlock, some b_1]) v_290 l_214 (capA (some 0) l_214.length) := O_293
          refine an_go (k := 4) (i := 8) (by kernel_rfl) rfl S rfl (op_buildSlice (K := K) (e := gt0) (vs := [v_288]) (xs := [(x1.2.2.1, 1, 0)]) S W rfl ty23 rfl rfl (by kernel_rfl) rfl rfl rfl rfl rfl ⟨R_289, trivial⟩ ?_)
          clear S; intro a w_297 v_294 hb_296 R_295 S
          replace R0 := R0.step hb_296
          replace R_241 := R_241.step hb_296
          replace R_243 := R_243.step hb_296
          replace R_269 := R_269.step hb_296
          replace R_289 := R_289.step hb_296
          replace B_2 := B_2.step hb_296
          replace O_293 := O_293.step hb_296
          replace W := W.step hb_296
          refine an_go (k := 3) (i := 9) (by kernel_rfl) rfl S rfl (op_append S W (E := 33) 0 rfl ty23 un23 by23 rfl rfl rfl rfl O_293 rfl R_295 el_227 ?_)
          clear S; intro a w_299 v_298 A_300 O_301 S
          replace R0 : RepV (.sl gt0) w_299 (Kx K w.heap.size [v_298.ownBlock, some b_1]) v0 x0 := R0.apd A_300 (i := 0) rfl
          replace R_241 : RepV (.sl gt0) w_299 (Kx K w.heap.size [v_298.ownBlock, some b_1]) v_240 s_213 := R_241.apd A_300 (i := 0) rfl
          replace R_243 : RepV (.sl gt0) w_299 (Kx K w.heap.size [v_298.ownBlock, some b_1]) v_242 s_234 := R_243.apd A_300 (i := 0) rfl
          replace R_269 : RepV (.sl (.int .u8)) w_299 (Kx K w.heap.size [v_298.ownBlock, some b_1]) v_268 x1.2.2.1 := R_269.apd A_300 (i := 0) rfl
          replace R_289 : RepV gt0 w_299 (Kx K w.heap.size [v_298.ownBlock, some b_1]) v_288 (x1.2.2.1, 1, 0) := R_289.apd A_300 (i := 0) rfl
          replace R_295 : RepV (.sl gt0) w_299 (Kx K w.heap.size [v_298.ownBlock, some b_1]) v_294 (⟨[(x1.2.2.1, 1, 0)], some 1⟩ : Sl ((Sl (Int)) × Int × Int)) := R_295.apd A_300 (i := 0) rfl
          replace B_2 : Bx gt2 31 w_299 (Kx K w.heap.size [v_298.ownBlock, some b_1]) b_1 x1 := B_2.apd W A_300 (i := 0) rfl (j := 1) rfl (by decide)
          replace W : Wd w w_299 [v_298.ownBlock, some b_1] := W.apd A_300 (i := 0) rfl
          replace O_301 : Ow gt0 33 w_299 w.heap.size (Kx K w.heap.size [v_298.ownBlock, some b_1]) v_298 l_227 (capA (capA (some 0) l_214.length) l_227.length) := O_301
          refine an_go (k := 2) (i := 13) (by kernel_rfl) rfl S rfl (op_append S W (E := 33) 0 rfl ty23 un23 by23 rfl rfl rfl rfl O_301 rfl R_243 el_235 ?_)
          clear S; intro a w_303 v_302 A_304 O_305 S
          replace R0 : RepV (.sl gt0) w_303 (Kx K w.heap.size [v_302.ownBlock, some b_1]) v0 x0 := R0.apd A_304 (i := 0) rfl
          replace R_241 : RepV (.sl gt0) w_303 (Kx K w.heap.size [v_302.ownBlock, some b_1]) v_240 s_213 := R_241.apd A_304 (i := 0) rfl
          replace R_243 : RepV (.sl gt0) w_303 (Kx K w.heap.size [v_302.ownBlock, some b_1]) v_242 s_234 := R_243.apd A_304 (i := 0) rfl
          replace R_269 : RepV (.sl (.int .u8)) w_303 (Kx K w.heap.size [v_302.ownBlock, some b_1]) v_268 x1.2.2.1 := R_269.apd A_304 (i := 0) rfl
          replace R_289 : RepV gt0 w_303 (Kx K w.heap.size [v_302.ownBlock, some b_1]) v_288 (x1.2.2.1, 1, 0) := R_289.apd A_304 (i := 0) rfl
          replace R_295 : RepV (.sl gt0) w_303 (Kx K w.heap.size [v_302.ownBlock, some b_1]) v_294 (⟨[(x1.2.2.1, 1, 0)], some 1⟩ : Sl ((Sl (Int)) × Int × Int)) := R_295.apd A_304 (i := 0) rfl
          replace B_2 : Bx gt2 31 w_303 (Kx K w.heap.size [v_302.ownBlock, some b_1]) b_1 x1 := B_2.apd W A_304 (i := 0) rfl (j := 1) rfl (by decide)
          replace W : Wd w w_303 [v_302.ownBlock, some b_1] := W.apd A_304 (i := 0) rfl
          replace O_305 : Ow gt0 33 w_303 w.heap.size (Kx K w.heap.size [v_302.ownBlock, some b_1]) v_302 l_235 (capA (capA (capA (some 0) l_214.length) l_227.length) l_235.length) := O_305
          refine an_pures (k := 0) (l1 := [(5, .int .i64 0), (4, v_302), (78, v_302), (74, v_298), (73, v_294), (69, v_290), (72, v_288), (71, v_268), (65, (.slice (some ⟨b_244, 0, .none⟩) 0 0)), (77, v_242), (68, v_240), (76, .int .i64 y_47), (75, v0), (70, .pointer (some ((⟨b_1, 0, .none⟩ : Addr).add (coff gf2 2)))), (67, .int .i64 y_47), (66, v0), (0, v0), (3, pB b_1), (8, .int .i64 y_47)]) tys tys_ok (by kernel_rfl) hQ_ [14, 15] S (by kernel_rfl) (by kernel_rfl) ?_; clear S; intro a S
          refine an_end (by kernel_rfl) ?_
          refine then_n ?_
          exact ⟨v_302, S.sub (by exact ⟨rfl, rfl, trivial⟩), W, B_2, O_305.forget⟩
         ·
          refine an_step (i := 8) rfl S rfl (op_buildSlice (K := K) (e := gt0) (vs := [v_288]) (xs := [(x1.2.2.1, 1, 0)]) S W rfl ty23 rfl rfl (by kernel_rfl) rfl rfl rfl rfl rfl ⟨R_289, trivial⟩ ?_)
          clear S; intro a w_309 v_306 hb_308 R_307 S
          replace R0 := R0.step hb_308
          replace R_241 := R_241.step hb_308
          replace R_243 := R_243.step hb_308
          replace R_269 := R_269.step hb_308
          replace R_289 := R_289.step hb_308
          replace B_2 := B_2.step hb_308
          replace O_247 := O_247.step hb_308
          replace W := W.step hb_308
          refine an_go (k := 4) (i := 4) (by kernel_rfl) rfl S rfl (op_append S W (E := 33) 0 rfl ty23 un23 by23 rfl rfl rfl rfl O_247 rfl R_241 el_214 ?_)
          clear S; intro a w_311 v_310 A_312 O_313 S
          replace R0 : RepV (.sl gt0) w_311 (Kx K w.heap.size [v_310.ownBlock, some b_1]) v0 x0 := R0.apd A_312 (i := 0) rfl
          replace R_241 : RepV (.sl gt0) w_311 (Kx K w.heap.size [v_310.ownBlock, some b_1]) v_240 s_213 := R_241.apd A_312 (i := 0) rfl
          replace R_243 : RepV (.sl gt0) w_311 (Kx K w.heap.size [v_310.ownBlock, some b_1]) v_242 s_234 := R_243.apd A_312 (i := 0) rfl
          replace R_269 : RepV (.sl (.int .u8)) w_311 (Kx K w.heap.size [v_310.ownBlock, some b_1]) v_268 x1.2.2.1 := R_269.apd A_312 (i := 0) rfl
          replace R_289 : RepV gt0 w_311 (Kx K w.heap.size [v_310.ownBlock, some b_1]) v_288 (x1.2.2.1, 1, 0) := R_289.apd A_312 (i := 0) rfl
          replace R_307 : RepV (.sl gt0) w_311 (Kx K w.heap.size [v_310.ownBlock, some b_1]) v_306 (⟨[(x1.2.2.1, 1, 0)], some 1⟩ : Sl ((Sl (Int)) × Int × Int)) := R_307.apd A_312 (i := 0) rfl
          replace B_2 : Bx gt2 31 w_311 (Kx K w.heap.size [v_310.ownBlock, some b_1]) b_1 x1 := B_2.apd W A_312 (i := 0) rfl (j := 1) rfl (by decide)
          replace W : Wd w w_311 [v_310.ownBlock, some b_1] := W.apd A_312 (i := 0) rfl
          replace O_313 : Ow gt0 33 w_311 w.heap.size (Kx K w.heap.size [v_310.ownBlock, some b_1]) v_310 l_214 (capA (some 0) l_214.length) := O_313
          refine an_go (k := 3) (i := 9) (by kernel_rfl) rfl S rfl (op_append S W (E := 33) 0 rfl ty23 un23 by23 rfl rfl rfl rfl O_313 rfl R_307 el_227 ?_)
          clear S; intro a w_315 v_314 A_316 O_317 S
          replace R0 : RepV (.sl gt0) w_315 (Kx K w.heap.size [v_314.ownBlock, some b_1]) v0 x0 := R0.apd A_316 (i := 0) rfl
          replace R_241 : RepV (.sl gt0) w_315 (Kx K w.heap.size [v_314.ownBlock, some b_1]) v_240 s_213 := R_241.apd A_316 (i := 0) rfl
          replace R_243 : RepV (.sl gt0) w_315 (Kx K w.heap.size [v_314.ownBlock, some b_1]) v_242 s_234 := R_243.apd A_316 (i := 0) rfl
          replace R_269 : RepV (.sl (.int .u8)) w_315 (Kx K w.heap.size [v_314.ownBlock, some b_1]) v_268 x1.2.2.1 := R_269.apd A_316 (i := 0) rfl
          replace R_289 : RepV gt0 w_315 (Kx K w.heap.size [v_314.ownBlock, some b_1]) v_288 (x1.2.2.1, 1, 0) := R_289.apd A_316 (i := 0) rfl
          replace R_307 : RepV (.sl gt0) w_315 (Kx K w.heap.size [v_314.ownBlock, some b_1]) v_306 (⟨[(x1.2.2.1, 1, 0)], some 1⟩ : Sl ((Sl (Int)) × Int × Int)) := R_307.apd A_316 (i := 0) rfl
          replace B_2 : Bx gt2 31 w_315 (Kx K w.heap.size [v_314.ownBlock, some b_1]) b_1 x1 := B_2.apd W A_316 (i := 0) rfl (j := 1) rfl (by decide)
          replace W : Wd w w_315 [v_314.ownBlock, some b_1] := W.apd A_316 (i := 0) rfl
          replace O_317 : Ow gt0 33 w_315 w.heap.size (Kx K w.heap.size [v_314.ownBlock, some b_1]) v_314 l_227 (capA (capA (some 0) l_214.length) l_227.length) := O_317
          refine an_go (k := 2) (i := 13) (by kernel_rfl) rfl S rfl (op_append S W (E := 33) 0 rfl ty23 un23 by23 rfl rfl rfl rfl O_317 rfl R_243 el_235 ?_)
          clear S; intro a w_319 v_318 A_320 O_321 S
          replace R0 : RepV (.sl gt0) w_319 (Kx K w.heap.size [v_318.ownBlock, some b_1]) v0 x0 := R0.apd A_320 (i := 0) rfl
          replace R_241 : RepV (.sl gt0) w_319 (Kx K w.heap.size [v_318.ownBlock, some b_1]) v_240 s_213 := R_241.apd A_320 (i := 0) rfl
          replace R_243 : RepV (.sl gt0) w_319 (Kx K w.heap.size [v_318.ownBlock, some b_1]) v_242 s_234 := R_243.apd A_320 (i := 0) rfl
          replace R_269 : RepV (.sl (.int .u8)) w_319 (Kx K w.heap.size [v_318.ownBlock, some b_1]) v_268 x1.2.2.1 := R_269.apd A_320 (i := 0) rfl
          replace R_289 : RepV gt0 w_319 (Kx K w.heap.size [v_318.ownBlock, some b_1]) v_288 (x1.2.2.1, 1, 0) := R_289.apd A_320 (i := 0) rfl
          replace R_307 : RepV (.sl gt0) w_319 (Kx K w.heap.size [v_318.ownBlock, some b_1]) v_306 (⟨[(x1.2.2.1, 1, 0)], some 1⟩ : Sl ((Sl (Int)) × Int × Int)) := R_307.apd A_320 (i := 0) rfl
          replace B_2 : Bx gt2 31 w_319 (Kx K w.heap.size [v_318.ownBlock, some b_1]) b_1 x1 := B_2.apd W A_320 (i := 0) rfl (j := 1) rfl (by decide)
          replace W : Wd w w_319 [v_318.ownBlock, some b_1] := W.apd A_320 (i := 0) rfl
          replace O_321 : Ow gt0 33 w_319 w.heap.size (Kx K w.heap.size [v_318.ownBlock, some b_1]) v_318 l_235 (capA (capA (capA (some 0) l_214.length) l_227.length) l_235.length) := O_321
          refine an_pures (k := 0) (l1 := [(5, .int .i64 0), (4, v_318), (78, v_318), (74, v_314), (69, v_310), (73, v_306), (72, v_288), (71, v_268), (65, (.slice (some ⟨b_244, 0, .none⟩) 0 0)), (77, v_242), (68, v_240), (76, .int .i64 y_47), (75, v0), (70, .pointer (some ((⟨b_1, 0, .none⟩ : Addr).add (coff gf2 2)))), (67, .int .i64 y_47), (66, v0), (0, v0), (3, pB b_1), (8, .int .i64 y_47)]) tys tys_ok (by kernel_rfl) hQ_ [14, 15] S (by kernel_rfl) (by kernel_rfl) ?_; clear S; intro a S
          refine an_end (by kernel_rfl) ?_
          refine then_n ?_
          exact ⟨v_318, S.sub (by exact ⟨rfl, rfl, trivial⟩), W, B_2, O_321.forget⟩
      ·
       refine an_step (i := 6) rfl S rfl (op_load (t := (.sl (.int .u8))) (x := x1.2.2.1) S rfl ty25 rfl rfl rfl (RepAt.add 2 (RepAt.st (t := gf2) B_2.at_)) ?_)
       clear S; intro a v_322 R_323 S
       refine an_fork (k := 7) (is := [0, 7]) (by kernel_rfl) rfl ⟨?_, ?_, trivial⟩
       ·
        refine an_step (i := 0) rfl S rfl (op_row0 (K := K) (e := gt0) (E := 33) S W rfl ty23 un23 rfl rfl ?_)
        clear S; intro a w_325 b_324 hb_326 O_327 S
        replace R0 := R0.box hb_326
        replace R_241 := R_241.box hb_326
        replace R_243 := R_243.box hb_326
        replace R_323 := R_323.box hb_326
        replace B_2 := B_2.box hb_326
        replace W := W.box hb_326
        replace O_327 : Ow gt0 33 w_325 w.heap.size (Kx K w.heap.size [some b_324, some b_1]) (.slice (some ⟨b_324, 0, .none⟩) 0 0) ([] : List ((Sl (Int)) × Int × Int)) (some 0) := O_327
        refine an_fork (k := 6) (is := [4, 7]) (by kernel_rfl) rfl ⟨?_, ?_, trivial⟩
        ·
         refine an_step (i := 4) rfl S rfl (op_append S W (E := 33) 0 rfl ty23 un23 by23 rfl rfl rfl rfl O_327 rfl R_241 el_214 ?_)
         clear S; intro a w_329 v_328 A_330 O_331 S
         replace R0 : RepV (.sl gt0) w_329 (Kx K w.heap.size [v_328.ownBlock, some b_1]) v0 x0 := R0.apd A_330 (i := 0) rfl
         replace R_241 : RepV (.sl gt0) w_329 (Kx K w.heap.size [v_328.ownBlock, some b_1]) v_240 s_213 := R_241.apd A_330 (i := 0) rfl
         replace R_243 : RepV (.sl gt0) w_329 (Kx K w.heap.size [v_328.ownBlock, some b_1]) v_242 s_234 := R_243.apd A_330 (i := 0) rfl
         replace R_323 : RepV (.sl (.int .u8)) w_329 (Kx K w.heap.size [v_328.ownBlock, some b_1]) v_322 x1.2.2.1 := R_323.apd A_330 (i := 0) rfl
         replace B_2 : Bx gt2 31 w_329 (Kx K w.heap.size [v_328.ownBlock, some b_1]) b_1 x1 := B_2.apd W A_330 (i := 0) rfl (j := 1) rfl (by decide)
         replace W : Wd w w_329 [v_328.ownBlock, some b_1] := W.apd A_330 (i := 0) rfl
         replace O_331 : Ow gt0 33 w_329 w.heap.size (Kx K w.heap.size [v_328.ownBlock, some b_1]) v_328 l_214 (capA (some 0) l_214.length) := O_331
         refine an_go (k := 5) (i := 7) (by kernel_rfl) rfl S rfl (op_build (K := (Kx K w.heap.size [v_328.ownBlock, some b_1])) (f := gf0) (z0 := (⟨[], some 0⟩, 0, 0)) (x := (x1.2.2.1, 1, 0)) (vs := [v_322, .int .u8 1]) S _ rfl ty33 z33 (fun w K => ⟨[.slice .none 0 0], [.int .u8 0, .int .u8 0], rfl, ⟨.none, 0, 0, rfl, rfl, Nat.le_refl _, by decide, fun k h => Option.some.inj h, .inl rfl⟩, ⟨[.int .u8 0], [.int .u8 0], rfl, ⟨rfl, by decide⟩, ⟨rfl, by decide⟩⟩⟩) rfl rfl rfl [(0, v_322), (1, .int .u8 1)] rfl ⟨_, R_323, rfl, rfl, ⟨_, (RepV.mkInt (by decide)), rfl, rfl, rfl⟩⟩ ?_)
         clear S; intro a v_332 R_333 S
         refine an_go (k := 4) (i := 8) (by kernel_rfl) rfl S rfl (op_buildSlice (K := K) (e := gt0) (vs := [v_332]) (xs := [(x1.2.2.1, 1, 0)]) S W rfl ty23 rfl rfl (by kernel_rfl) rfl rfl rfl rfl rfl ⟨R_333, trivial⟩ ?_)
         clear S; intro a w_337 v_334 hb_336 R_335 S
         replace R0 := R0.step hb_336
         replace R_241 := R_241.step hb_336
         replace R_243 := R_243.step hb_336
         replace R_323 := R_323.step hb_336
         replace R_333 := R_333.step hb_336
         replace B_2 := B_2.step hb_336
         replace O_331 := O_331.step hb_336
         replace W := W.step hb_336
         refine an_go (k := 3) (i := 9) (by kernel_rfl) rfl S rfl (op_append S W (E := 33) 0 rfl ty23 un23 by23 rfl rfl rfl rfl O_331 rfl R_335 el_227 ?_)
         clear S; intro a w_339 v_338 A_340 O_341 S
         replace R0 : RepV (.sl gt0) w_339 (Kx K w.heap.size [v_338.ownBlock, some b_1]) v0 x0 := R0.apd A_340 (i := 0) rfl
         replace R_241 : RepV (.sl gt0) w_339 (Kx K w.heap.size [v_338.ownBlock, some b_1]) v_240 s_213 := R_241.apd A_340 (i := 0) rfl
         replace R_243 : RepV (.sl gt0) w_339 (Kx K w.heap.size [v_338.ownBlock, some b_1]) v_242 s_234 := R_243.apd A_340 (i := 0) rfl
         replace R_323 : RepV (.sl (.int .u8)) w_339 (Kx K w.heap.size [v_338.ownBlock, some b_1]) v_322 x1.2.2.1 := R_323.apd A_340 (i := 0) rfl
         replace R_333 : RepV gt0 w_339 (Kx K w.heap.size [v_338.ownBlock, some b_1]) v_332 (x1.2.2.1, 1, 0) := R_333.apd A_340 (i := 0) rfl
         replace R_335 : RepV (.sl gt0) w_339 (Kx K w.heap.size [v_338.ownBlock, some b_1]) v_334 (⟨[(x1.2.2.1, 1, 0)], some 1⟩ : Sl ((Sl (Int)) × Int × Int)) := R_335.apd A_340 (i := 0) rfl
         replace B_2 : Bx gt2 31 w_339 (Kx K w.heap.size [v_338.ownBlock, some b_1]) b_1 x1 := B_2.apd W A_340 (i := 0) rfl (j := 1) rfl (by decide)
         replace W : Wd w w_339 [v_338.ownBlock, some b_1] := W.apd A_340 (i := 0) rfl
         replace O_341 : Ow gt0 33 w_339 w.heap.size (Kx K w.heap.size [v_338.ownBlock, some b_1]) v_338 l_227 (capA (capA (some 0) l_214.length) l_227.length) := O_341
         refine an_go (k := 2) (i := 13) (by kernel_rfl) rfl S rfl (op_append S W (E := 33) 0 rfl ty23 un23 by23 rfl rfl rfl rfl O_341 rfl R_243 el_235 ?_)
         clear S; intro a w_343 v_342 A_344 O_345 S
         replace R0 : RepV (.sl gt0) w_343 (Kx K w.heap.size [v_342.ownBlock, some b_1]) v0 x0 := R0.apd A_344 (i := 0) rfl
         replace R_241 : RepV (.sl gt0) w_343 (Kx K w.heap.size [v_342.ownBlock, some b_1]) v_240 s_213 := R_241.apd A_344 (i := 0) rfl
         replace R_243 : RepV (.sl gt0) w_343 (Kx K w.heap.size [v_342.ownBlock, some b_1]) v_242 s_234 := R_243.apd A_344 (i := 0) rfl
         replace R_323 : RepV (.sl (.int .u8)) w_343 (Kx K w.heap.size [v_342.ownBlock, some b_1]) v_322 x1.2.2.1 := R_323.apd A_344 (i := 0) rfl
         replace R_333 : RepV gt0 w_343 (Kx K w.heap.size [v_342.ownBlock, some b_1]) v_332 (x1.2.2.1, 1, 0) := R_333.apd A_344 (i := 0) rfl
         replace R_335 : RepV (.sl gt0) w_343 (Kx K w.heap.size [v_342.ownBlock, some b_1]) v_334 (⟨[(x1.2.2.1, 1, 0)], some 1⟩ : Sl ((Sl (Int)) × Int × Int)) := R_335.apd A_344 (i := 0) rfl
         replace B_2 : Bx gt2 31 w_343 (Kx K w.heap.size [v_342.ownBlock, some b_1]) b_1 x1 := B_2.apd W A_344 (i := 0) rfl (j := 1) rfl (by decide)
         replace W : Wd w w_343 [v_342.ownBlock, some b_1] := W.apd A_344 (i := 0) rfl
         replace O_345 : Ow gt0 33 w_343 w.heap.size (Kx K w.heap.size [v_342.ownBlock, some b_1]) v_342 l_235 (capA (capA (capA (some 0) l_214.length) l_227.length) l_235.length) := O_345
         refine an_pures (k := 0) (l1 := [(5, .int .i64 0), (4, v_342), (78, v_342), (74, v_338), (73, v_334), (72, v_332), (69, v_328), (65, (.slice (some ⟨b_324, 0, .none⟩) 0 0)), (71, v_322), (77, v_242), (68, v_240), (76, .int .i64 y_47), (75, v0), (70, .pointer (some ((⟨b_1, 0, .none⟩ : Addr).add (coff gf2 2)))), (67, .int .i64 y_47), (66, v0), (0, v0), (3, pB b_1), (8, .int .i64 y_47)]) tys tys_ok (by kernel_rfl) hQ_ [14, 15] S (by kernel_rfl) (by kernel_rfl) ?_; clear S; intro a S
         refine an_end (by kernel_rfl) ?_
         refine then_n ?_
         exact ⟨v_342, S.sub (by exact ⟨rfl, rfl, trivial⟩), W, B_2, O_345.forget⟩
        ·
         refine an_step (i := 7) rfl S rfl (op_build (K := (Kx K w.heap.size [some b_324, some b_1])) (f := gf0) (z0 := (⟨[], some 0⟩, 0, 0)) (x := (x1.2.2.1, 1, 0)) (vs := [v_322, .int .u8 1]) S _ rfl ty33 z33 (fun w K => ⟨[.slice .none 0 0], [.int .u8 0, .int .u8 0], rfl, ⟨.none, 0, 0, rfl, rfl, Nat.le_refl _, by decide, fun k h => Option.some.inj h, .inl rfl⟩, ⟨[.int .u8 0], [.int .u8 0], rfl, ⟨rfl, by decide⟩, ⟨rfl, by decide⟩⟩⟩) rfl rfl rfl [(0, v_322), (1, .int .u8 1)] rfl ⟨_, R_323, rfl, rfl, ⟨_, (RepV.mkInt (by decide)), rfl, rfl, rfl⟩⟩ ?_)
         clear S; intro a v_346 R_347 S
         refine an_fork (k := 5) (is := [4, 8]) (by kernel_rfl) rfl ⟨?_, ?_, trivial⟩
         ·
          refine an_step (i := 4) rfl S rfl (op_append S W (E := 33) 0 rfl ty23 un23 by23 rfl rfl rfl rfl O_327 rfl R_241 el_214 ?_)
          clear S; intro a w_349 v_348 A_350 O_351 S
          replace R0 : RepV (.sl gt0) w_349 (Kx K w.heap.size [v_348.ownBlock, some b_1]) v0 x0 := R0.apd A_350 (i := 0) rfl
          replace R_241 : RepV (.sl gt0) w_349 (Kx K w.heap.size [v_348.ownBlock, some b_1]) v_240 s_213 := R_241.apd A_350 (i := 0) rfl
          replace R_243 : RepV (.sl gt0) w_349 (Kx K w.heap.size [v_348.ownBlock, some b_1]) v_242 s_234 := R_243.apd A_350 (i := 0) rfl
          replace R_323 : RepV (.sl (.int .u8)) w_349 (Kx K w.heap.size [v_348.ownBlock, some b_1]) v_322 x1.2.2.1 := R_323.apd A_350 (i := 0) rfl
          replace R_347 : RepV gt0 w_349 (Kx K w.heap.size [v_348.ownBlock, some b_1]) v_346 (x1.2.2.1, 1, 0) := R_347.apd A_350 (i := 0) rfl
          replace B_2 : Bx gt2 31 w_349 (Kx K w.heap.size [v_348.ownBlock, some b_1]) b_1 x1 := B_2.apd W A_350 (i := 0) rfl (j := 1) rfl (by decide)
          replace W : Wd w w_349 [v_348.ownBlock, some b_1] := W.apd A_350 (i := 0) rfl
          replace O_351 : Ow gt0 33 w_349 w.heap.size (Kx K w.heap.size [v_348.ownBlock, some b_1]) v_348 l_214 (capA (some 0) l_214.length) := O_351
          refine an_go (k := 4) (i := 8) (by kernel_rfl) rfl S rfl (op_buildSlice (K := K) (e := gt0) (vs := [v_346]) (xs := [(x1.2.2.1, 1, 0)]) S W rfl ty23 rfl rfl (by kernel_rfl) rfl rfl rfl rfl rfl ⟨R_347, trivial⟩ ?_)
          clear S; intro a w_355 v_352 hb_354 R_353 S
          replace R0 := R0.step hb_354
          replace R_241 := R_241.step hb_354
          replace R_243 := R_243.step hb_354
          replace R_323 := R_323.step hb_354
          replace R_347 := R_347.step hb_354
          replace B_2 := B_2.step hb_354
          replace O_351 := O_351.step hb_354
          replace W := W.step hb_354
          refine an_go (k := 3) (i := 9) (by kernel_rfl) rfl S rfl (op_append S W (E := 33) 0 rfl ty23 un23 by23 rfl rfl rfl rfl O_351 rfl R_353 el_227 ?_)
          clear S; intro a w_357 v_356 A_358 O_359 S
          replace R0 : RepV (.sl gt0) w_357 (Kx K w.heap.size [v_356.ownBlock, some b_1]) v0 x0 := R0.apd A_358 (i := 0) rfl
          replace R_241 : RepV (.sl gt0) w_357 (Kx K w.heap.size [v_356.ownBlock, some b_1]) v_240 s_213 := R_241.apd A_358 (i := 0) rfl
          replace R_243 : RepV (.sl gt0) w_357 (Kx K w.heap.size [v_356.ownBlock, some b_1]) v_242 s_234 := R_243.apd A_358 (i := 0) rfl
          replace R_323 : RepV (.sl (.int .u8)) w_357 (Kx K w.heap.size [v_356.ownBlock, some b_1]) v_322 x1.2.2.1 := R_323.apd A_358 (i := 0) rfl
          replace R_347 : RepV gt0 w_357 (Kx K w.heap.size [v_356.ownBlock, some b_1]) v_346 (x1.2.2.1, 1, 0) := R_347.apd A_358 (i := 0) rfl
          replace R_353 : RepV (.sl gt0) w_357 (Kx K w.heap.size [v_356.ownBlock, some b_1]) v_352 (⟨[(x1.2.2.1, 1, 0)], some 1⟩ : Sl ((Sl (Int)) × Int × Int)) := R_353.apd A_358 (i := 0) rfl
          replace B_2 : Bx gt2 31 w_357 (Kx K w.heap.size [v_356.ownBlock, some b_1]) b_1 x1 := B_2.apd W A_358 (i := 0) rfl (j := 1) rfl (by decide)
          replace W : Wd w w_357 [v_356.ownBlock, some b_1] := W.apd A_358 (i := 0) rfl
          replace O_359 : Ow gt0 33 w_357 w.heap.size (Kx K w.heap.size [v_356.ownBlock, some b_1]) v_356 l_227 (capA (capA (some 0) l_214.length) l_227.length) := O_359
          refine an_go (k := 2) (i := 13) (by kernel_rfl) rfl S rfl (op_append S W (E := 33) 0 rfl ty23 un23 by23 rfl rfl rfl rfl O_359 rfl R_243 el_235 ?_)
          clear S; intro a w_361 v_360 A_362 O_363 S
          replace R0 : RepV (.sl gt0) w_361 (Kx K w.heap.size [v_360.ownBlock, some b_1]) v0 x0 := R0.apd A_362 (i := 0) rfl
          replace R_241 : RepV (.sl gt0) w_361 (Kx K w.heap.size [v_360.ownBlock, some b_1]) v_240 s_213 := R_241.apd A_362 (i := 0) rfl
          replace R_243 : RepV (.sl gt0) w_361 (Kx K w.heap.size [v_360.ownBlock, some b_1]) v_242 s_234 := R_243.apd A_362 (i := 0) rfl
          replace R_323 : RepV (.sl (.int .u8)) w_361 (Kx K w.heap.size [v_360.ownBlock, some b_1]) v_322 x1.2.2.1 := R_323.apd A_362 (i := 0) rfl
          replace R_347 : RepV gt0 w_361 (Kx K w.heap.size [v_360.ownBlock, some b_1]) v_346 (x1.2.2.1, 1, 0) := R_347.apd A_362 (i := 0) rfl
          replace R_353 : RepV (.sl gt0) w_361 (Kx K w.heap.size [v_360.ownBlock, some b_1]) v_352 (⟨[(x1.2.2.1, 1, 0)], some 1⟩ : Sl ((Sl (Int)) × Int × Int)) := R_353.apd A_362 (i := 0) rfl
          replace B_2 : Bx gt2 31 w_361 (Kx K w.heap.size [v_360.ownBlock, some b_1]) b_1 x1 := B_2.apd W A_362 (i := 0) rfl (j := 1) rfl (by decide)
          replace W : Wd w w_361 [v_360.ownBlock, some b_1] := W.apd A_362 (i := 0) rfl
          replace O_363 : Ow gt0 33 w_361 w.heap.size (Kx K w.heap.size [v_360.ownBlock, some b_1]) v_360 l_235 (capA (capA (capA (some 0) l_214.length) l_227.length) l_235.length) := O_363
          refine an_pures (k := 0) (l1 := [(5, .int .i64 0), (4, v_360), (78, v_360), (74, v_356), (73, v_352), (69, v_348), (72, v_346), (65, (.slice (some ⟨b_324, 0, .none⟩) 0 0)), (71, v_322), (77, v_242), (68, v_240), (76, .int .i64 y_47), (75, v0), (70, .pointer (some ((⟨b_1, 0, .none⟩ : Addr).add (coff gf2 2)))), (67, .int .i64 y_47), (66, v0), (0, v0), (3, pB b_1), (8, .int .i64 y_47)]) tys tys_ok (by kernel_rfl) hQ_ [14, 15] S (by kernel_rfl) (by kernel_rfl) ?_; clear S; intro a S
          refine an_end (by kernel_rfl) ?_
          refine then_n ?_
          exact ⟨v_360, S.sub (by exact ⟨rfl, rfl, trivial⟩), W, B_2, O_363.forget⟩
         ·
          refine an_step (i := 8) rfl S rfl (op_buildSlice (K := K) (e := gt0) (vs := [v_346]) (xs := [(x1.2.2.1, 1, 0)]) S W rfl ty23 rfl rfl (by kernel_rfl) rfl rfl rfl rfl rfl ⟨R_347, trivial⟩ ?_)
          clear S; intro a w_367 v_364 hb_366 R_365 S
          replace R0 := R0.step hb_366
          replace R_241 := R_241.step hb_366
          replace R_243 := R_243.step hb_366
          replace R_323 := R_323.step hb_366
          replace R_347 := R_347.step hb_366
          replace B_2 := B_2.step hb_366
          replace O_327 := O_327.step hb_366
          replace W := W.step hb_366
          refine an_go (k := 4) (i := 4) (by kernel_rfl) rfl S rfl (op_append S W (E := 33) 0 rfl ty23 un23 by23 rfl rfl rfl rfl O_327 rfl R_241 el_214 ?_)
          clear S; intro a w_369 v_368 A_370 O_371 S
          replace R0 : RepV (.sl gt0) w_369 (Kx K w.heap.size [v_368.ownBlock, some b_1]) v0 x0 := R0.apd A_370 (i := 0) rfl
          replace R_241 : RepV (.sl gt0) w_369 (Kx K w.heap.size [v_368.ownBlock, some b_1]) v_240 s_213 := R_241.apd A_370 (i := 0) rfl
          replace R_243 : RepV (.sl gt0) w_369 (Kx K w.heap.size [v_368.ownBlock, some b_1]) v_242 s_234 := R_243.apd A_370 (i := 0) rfl
          replace R_323 : RepV (.sl (.int .u8)) w_369 (Kx K w.heap.size [v_368.ownBlock, some b_1]) v_322 x1.2.2.1 := R_323.apd A_370 (i := 0) rfl
          replace R_347 : RepV gt0 w_369 (Kx K w.heap.size [v_368.ownBlock, some b_1]) v_346 (x1.2.2.1, 1, 0) := R_347.apd A_370 (i := 0) rfl
          replace R_365 : RepV (.sl gt0) w_369 (Kx K w.heap.size [v_368.ownBlock, some b_1]) v_364 (⟨[(x1.2.2.1, 1, 0)], some 1⟩ : Sl ((Sl (Int)) × Int × Int)) := R_365.apd A_370 (i := 0) rfl
          replace B_2 : Bx gt2 31 w_369 (Kx K w.heap.size [v_368.ownBlock, some b_1]) b_1 x1 := B_2.apd W A_370 (i := 0) rfl (j := 1) rfl (by decide)
          replace W : Wd w w_369 [v_368.ownBlock, some b_1] := W.apd A_370 (i := 0) rfl
          replace O_371 : Ow gt0 33 w_369 w.heap.size (Kx K w.heap.size [v_368.ownBlock, some b_1]) v_368 l_214 (capA (some 0) l_214.length) := O_371
          refine an_go (k := 3) (i := 9) (by kernel_rfl) rfl S rfl (op_append S W (E := 33) 0 rfl ty23 un23 by23 rfl rfl rfl rfl O_371 rfl R_365 el_227 ?_)
          clear S; intro a w_373 v_372 A_374 O_375 S
          replace R0 : RepV (.sl gt0) w_373 (Kx K w.heap.size [v_372.ownBlock, some b_1]) v0 x0 := R0.apd A_374 (i := 0) rfl
          replace R_241 : RepV (.sl gt0) w_373 (Kx K w.heap.size [v_372.ownBlock, some b_1]) v_240 s_213 := R_241.apd A_374 (i := 0) rfl
          replace R_243 : RepV (.sl gt0) w_373 (Kx K w.heap.size [v_372.ownBlock, some b_1]) v_242 s_234 := R_243.apd A_374 (i := 0) rfl
          replace R_323 : RepV (.sl (.int .u8)) w_373 (Kx K w.heap.size [v_372.ownBlock, some b_1]) v_322 x1.2.2.1 := R_323.apd A_374 (i := 0) rfl
          replace R_347 : RepV gt0 w_373 (Kx K w.heap.size [v_372.ownBlock, some b_1]) v_346 (x1.2.2.1, 1, 0) := R_347.apd A_374 (i := 0) rfl
          replace R_365 : RepV (.sl gt0) w_373 (Kx K w.heap.size [v_372.ownBlock, some b_1]) v_364 (⟨[(x1.2.2.1, 1, 0)], some 1⟩ : Sl ((Sl (Int)) × Int × Int)) := R_365.apd A_374 (i := 0) rfl
          replace B_2 : Bx gt2 31 w_373 (Kx K w.heap.size [v_372.ownBlock, some b_1]) b_1 x1 := B_2.apd W A_374 (i := 0) rfl (j := 1) rfl (by decide)
          replace W : Wd w w_373 [v_372.ownBlock, some b_1] := W.apd A_374 (i := 0) rfl
          replace O_375 : Ow gt0 33 w_373 w.heap.size (Kx K w.heap.size [v_372.ownBlock, some b_1]) v_372 l_227 (capA (capA (some 0) l_214.length) l_227.length) := O_375
          refine an_go (k := 2) (i := 13) (by kernel_rfl) rfl S rfl (op_append S W (E := 33) 0 rfl ty23 un23 by23 rfl rfl rfl rfl O_375 rfl R_243 el_235 ?_)
          clear S; intro a w_377 v_376 A_378 O_379 S
          replace R0 : RepV (.sl gt0) w_377 (Kx K w.heap.size [v_376.ownBlock, some b_1]) v0 x0 := R0.apd A_378 (i := 0) rfl
          replace R_241 : RepV (.sl gt0) w_377 (Kx K w.heap.size [v_376.ownBlock, some b_1]) v_240 s_213 := R_241.apd A_378 (i := 0) rfl
          replace R_243 : RepV (.sl gt0) w_377 (Kx K w.heap.size [v_376.ownBlock, some b_1]) v_242 s_234 := R_243.apd A_378 (i := 0) rfl
          replace R_323 : RepV (.sl (.int .u8)) w_377 (Kx K w.heap.size [v_376.ownBlock, some b_1]) v_322 x1.2.2.1 := R_323.apd A_378 (i := 0) rfl
          replace R_347 : RepV gt0 w_377 (Kx K w.heap.size [v_376.ownBlock, some b_1]) v_346 (x1.2.2.1, 1, 0) := R_347.apd A_378 (i := 0) rfl
          replace R_365 : RepV (.sl gt0) w_377 (Kx K w.heap.size [v_376.ownBlock, some b_1]) v_364 (⟨[(x1.2.2.1, 1, 0)], some 1⟩ : Sl ((Sl (Int)) × Int × Int)) := R_365.apd A_378 (i := 0) rfl
          replace B_2 : Bx gt2 31 w_377 (Kx K w.heap.size [v_376.ownBlock, some b_1]) b_1 x1 := B_2.apd W A_378 (i := 0) rfl (j := 1) rfl (by decide)
          replace W : Wd w w_377 [v_376.ownBlock, some b_1] := W.apd A_378 (i := 0) rfl
          replace O_379 : Ow gt0 33 w_377 w.heap.size (Kx K w.heap.size [v_376.ownBlock, some b_1]) v_376 l_235 (capA (capA (capA (some 0) l_214.length) l_227.length) l_235.length) := O_379
          refine an_pures (k := 0) (l1 := [(5, .int .i64 0), (4, v_376), (78, v_376), (74, v_372), (69, v_368), (73, v_364), (72, v_346), (65, (.slice (some ⟨b_324, 0, .none⟩) 0 0)), (71, v_322), (77, v_242), (68, v_240), (76, .int .i64 y_47), (75, v0), (70, .pointer (some ((⟨b_1, 0, .none⟩ : Addr).add (coff gf2 2)))), (67, .int .i64 y_47), (66, v0), (0, v0), (3, pB b_1), (8, .int .i64 y_47)]) tys tys_ok (by kernel_rfl) hQ_ [14, 15] S (by kernel_rfl) (by kernel_rfl) ?_; clear S; intro a S
          refine an_end (by kernel_rfl) ?_
          refine then_n ?_
          exact ⟨v_376, S.sub (by exact ⟨rfl, rfl, trivial⟩), W, B_2, O_379.forget⟩
       ·
        refine an_step (i := 7) rfl S rfl (op_build (K := (Kx K w.heap.size [some b_1])) (f := gf0) (z0 := (⟨[], some 0⟩, 0, 0)) (x := (x1.2.2.1, 1, 0)) (vs := [v_322, .int .u8 1]) S _ rfl ty33 z33 (fun w K => ⟨[.slice .none 0 0], [.int .u8 0, .int .u8 0], rfl, ⟨.none, 0, 0, rfl, rfl, Nat.le_refl _, by decide, fun k h => Option.some.inj h, .inl rfl⟩, ⟨[.int .u8 0], [.int .u8 0], rfl, ⟨rfl, by decide⟩, ⟨rfl, by decide⟩⟩⟩) rfl rfl rfl [(0, v_322), (1, .int .u8 1)] rfl ⟨_, R_323, rfl, rfl, ⟨_, (RepV.mkInt (by decide)), rfl, rfl, rfl⟩⟩ ?_)
        clear S; intro a v_380 R_381 S
        refine an_fork (k := 6) (is := [0, 8]) (by kernel_rfl) rfl ⟨?_, ?_, trivial⟩
        ·
         refine an_step (i := 0) rfl S rfl (op_row0 (K := K) (e := gt0) (E := 33) S W rfl ty23 un23 rfl rfl ?_)
         clear S; intro a w_383 b_382 hb_384 O_385 S
         replace R0 := R0.box hb_384
         replace R_241 := R_241.box hb_384
         replace R_243 := R_243.box hb_384
         replace R_323 := R_323.box hb_384
         replace R_381 := R_381.box hb_384
         replace B_2 := B_2.box hb_384
         replace W := W.box hb_384
         replace O_385 : Ow gt0 33 w_383 w.heap.size (Kx K w.heap.size [some b_382, some b_1]) (.slice (some ⟨b_382, 0, .none⟩) 0 0) ([] : List ((Sl (Int)) × Int × Int)) (some 0) := O_385
         refine an_fork (k := 5) (is := [4, 8]) (by kernel_rfl) rfl ⟨?_, ?_, trivial⟩
         ·
          refine an_step (i := 4) rfl S rfl (op_append S W (E := 33) 0 rfl ty23 un23 by23 rfl rfl rfl rfl O_385 rfl R_241 el_214 ?_)
          clear S; intro a w_387 v_386 A_388 O_389 S
          replace R0 : RepV (.sl gt0) w_387 (Kx K w.heap.size [v_386.ownBlock, some b_1]) v0 x0 := R0.apd A_388 (i := 0) rfl
          replace R_241 : RepV (.sl gt0) w_387 (Kx K w.heap.size [v_386.ownBlock, some b_1]) v_240 s_213 := R_241.apd A_388 (i := 0) rfl
          replace R_243 : RepV (.sl gt0) w_387 (Kx K w.heap.size [v_386.ownBlock, some b_1]) v_242 s_234 := R_243.apd A_388 (i := 0) rfl
          replace R_323 : RepV (.sl (.int .u8)) w_387 (Kx K w.heap.size [v_386.ownBlock, some b_1]) v_322 x1.2.2.1 := R_323.apd A_388 (i := 0) rfl
          replace R_381 : RepV gt0 w_387 (Kx K w.heap.size [v_386.ownBlock, some b_1]) v_380 (x1.2.2.1, 1, 0) := R_381.apd A_388 (i := 0) rfl
          replace B_2 : Bx gt2 31 w_387 (Kx K w.heap.size [v_386.ownBlock, some b_1]) b_1 x1 := B_2.apd W A_388 (i := 0) rfl (j := 1) rfl (by decide)
          replace W : Wd w w_387 [v_386.ownBlock, some b_1] := W.apd A_388 (i := 0) rfl
          replace O_389 : Ow gt0 33 w_387 w.heap.size (Kx K w.heap.size [v_386.ownBlock, some b_1]) v_386 l_214 (capA (some 0) l_214.length) := O_389
          refine an_go (k := 4) (i := 8) (by kernel_rfl) rfl S rfl (op_buildSlice (K := K) (e := gt0) (vs := [v_380]) (xs := [(x1.2.2.1, 1, 0)]) S W rfl ty23 rfl rfl (by kernel_rfl) rfl rfl rfl rfl rfl ⟨R_381, trivial⟩ ?_)
          clear S; intro a w_393 v_390 hb_392 R_391 S
          replace R0 := R0.step hb_392
          replace R_241 := R_241.step hb_392
          replace R_243 := R_243.step hb_392
          replace R_323 := R_323.step hb_392
          replace R_381 := R_381.step hb_392
          replace B_2 := B_2.step hb_392
          replace O_389 := O_389.step hb_392
          replace W := W.step hb_392
          refine an_go (k := 3) (i := 9) (by kernel_rfl) rfl S rfl (op_append S W (E := 33) 0 rfl ty23 un23 by23 rfl rfl rfl rfl O_389 rfl R_391 el_227 ?_)
          clear S; intro a w_395 v_394 A_396 O_397 S
          replace R0 : RepV (.sl gt0) w_395 (Kx K w.heap.size [v_394.ownBlock, some b_1]) v0 x0 := R0.apd A_396 (i := 0) rfl
          replace R_241 : RepV (.sl gt0) w_395 (Kx K w.heap.size [v_394.ownBlock, some b_1]) v_240 s_213 := R_241.apd A_396 (i := 0) rfl
          replace R_243 : RepV (.sl gt0) w_395 (Kx K w.heap.size [v_394.ownBlock, some b_1]) v_242 s_234 := R_243.apd A_396 (i := 0) rfl
          replace R_323 : RepV (.sl (.int .u8)) w_395 (Kx K w.heap.size [v_394.ownBlock, some b_1]) v_322 x1.2.2.1 := R_323.apd A_396 (i := 0) rfl
          replace R_381 : RepV gt0 w_395 (Kx K w.heap.size [v_394.ownBlock, some b_1]) v_380 (x1.2.2.1, 1, 0) := R_381.apd A_396 (i := 0) rfl
          replace R_391 : RepV (.sl gt0) w_395 (Kx K w.heap.size [v_394.ownBlock, some b_1]) v_390 (⟨[(x1.2.2.1, 1, 0)], some 1⟩ : Sl ((Sl (Int)) × Int × Int)) := R_391.apd A_396 (i := 0) rfl
          replace B_2 : Bx gt2 31 w_395 (Kx K w.heap.size [v_394.ownBlock, some b_1]) b_1 x1 := B_2.apd W A_396 (i := 0) rfl (j := 1) rfl (by decide)
          replace W : Wd w w_395 [v_394.ownBlock, some b_1] := W.apd A_396 (i := 0) rfl
          replace O_397 : Ow gt0 33 w_395 w.heap.size (Kx K w.heap.size [v_394.ownBlock, some b_1]) v_394 l_227 (capA (capA (some 0) l_214.length) l_227.length) := O_397
          refine an_go (k := 2) (i := 13) (by kernel_rfl) rfl S rfl (op_append S W (E := 33) 0 rfl ty23 un23 by23 rfl rfl rfl rfl O_397 rfl R_243 el_235 ?_)
          clear S; intro a w_399 v_398 A_400 O_401 S
          replace R0 : RepV (.sl gt0) w_399 (Kx K w.heap.size [v_398.ownBlock, some b_1]) v0 x0 := R0.apd A_400 (i := 0) rfl
          replace R_241 : RepV (.sl gt0) w_399 (Kx K w.heap.size [v_398.ownBlock, some b_1]) v_240 s_213 := R_241.apd A_400 (i := 0) rfl
          replace R_243 : RepV (.sl gt0) w_399 (Kx K w.heap.size [v_398.ownBlock, some b_1]) v_242 s_234 := R_243.apd A_400 (i := 0) rfl
          replace R_323 : RepV (.sl (.int .u8)) w_399 (Kx K w.heap.size [v_398.ownBlock, some b_1]) v_322 x1.2.2.1 := R_323.apd A_400 (i := 0) rfl
          replace R_381 : RepV gt0 w_399 (Kx K w.heap.size [v_398.ownBlock, some b_1]) v_380 (x1.2.2.1, 1, 0) := R_381.apd A_400 (i := 0) rfl
          replace R_391 : RepV (.sl gt0) w_399 (Kx K w.heap.size [v_398.ownBlock, some b_1]) v_390 (⟨[(x1.2.2.1, 1, 0)], some 1⟩ : Sl ((Sl (Int)) × Int × Int)) := R_391.apd A_400 (i := 0) rfl
          replace B_2 : Bx gt2 31 w_399 (Kx K w.heap.size [v_398.ownBlock, some b_1]) b_1 x1 := B_2.apd W A_400 (i := 0) rfl (j := 1) rfl (by decide)
          replace W : Wd w w_399 [v_398.ownBlock, some b_1] := W.apd A_400 (i := 0) rfl
          replace O_401 : Ow gt0 33 w_399 w.heap.size (Kx K w.heap.size [v_398.ownBlock, some b_1]) v_398 l_235 (capA (capA (capA (some 0) l_214.length) l_227.length) l_235.length) := O_401
          refine an_pures (k := 0) (l1 := [(5, .int .i64 0), (4, v_398), (78, v_398), (74, v_394), (73, v_390), (69, v_386), (65, (.slice (some ⟨b_382, 0, .none⟩) 0 0)), (72, v_380), (71, v_322), (77, v_242), (68, v_240), (76, .int .i64 y_47), (75, v0), (70, .pointer (some ((⟨b_1, 0, .none⟩ : Addr).add (coff gf2 2)))), (67, .int .i64 y_47), (66, v0), (0, v0), (3, pB b_1), (8, .int .i64 y_47)]) tys tys_ok (by kernel_rfl) hQ_ [14, 15] S (by kernel_rfl) (by kernel_rfl) ?_; clear S; intro a S
          refine an_end (by kernel_rfl) ?_
          refine then_n ?_
          exact ⟨v_398, S.sub (by exact ⟨rfl, rfl, trivial⟩), W, B_2, O_401.forget⟩
         ·
          refine an_step (i := 8) rfl S rfl (op_buildSlice (K := K) (e := gt0) (vs := [v_380]) (xs := [(x1.2.2.1, 1, 0)]) S W rfl ty23 rfl rfl (by kernel_rfl) rfl rfl rfl rfl rfl ⟨R_381, trivial⟩ ?_)
          clear S; intro a w_405 v_402 hb_404 R_403 S
          replace R0 := R0.step hb_404
          replace R_241 := R_241.step hb_404
          replace R_243 := R_243.step hb_404
          replace R_323 := R_323.step hb_404
          replace R_381 := R_381.step hb_404
          replace B_2 := B_2.step hb_404
          replace O_385 := O_385.step hb_404
          replace W := W.step hb_404
          refine an_go (k := 4) (i := 4) (by kernel_rfl) rfl S rfl (op_append S W (E := 33) 0 rfl ty23 un23 by23 rfl rfl rfl rfl O_385 rfl R_241 el_214 ?_)
          clear S; intro a w_407 v_406 A_408 O_409 S
          replace R0 : RepV (.sl gt0) w_407 (Kx K w.heap.size [v_406.ownBlock, some b_1]) v0 x0 := R0.apd A_408 (i := 0) rfl
          replace R_241 : RepV (.sl gt0) w_407 (Kx K w.heap.size [v_406.ownBlock, some b_1]) v_240 s_213 := R_241.apd A_408 (i := 0) rfl
          replace R_243 : RepV (.sl gt0) w_407 (Kx K w.heap.size [v_406.ownBlock, some b_1]) v_242 s_234 := R_243.apd A_408 (i := 0) rfl
          replace R_323 : RepV (.sl (.int .u8)) w_407 (Kx K w.heap.size [v_406.ownBlock, some b_1]) v_322 x1.2.2.1 := R_323.apd A_408 (i := 0) rfl
          replace R_381 : RepV gt0 w_407 (Kx K w.heap.size [v_406.ownBlock, some b_1]) v_380 (x1.2.2.1, 1, 0) := R_381.apd A_408 (i := 0) rfl
          replace R_403 : RepV (.sl gt0) w_407 (Kx K w.heap.size [v_406.ownBlock, some b_1]) v_402 (⟨[(x1.2.2.1, 1, 0)], some 1⟩ : Sl ((Sl (Int)) × Int × Int)) := R_403.apd A_408 (i := 0) rfl
          replace B_2 : Bx gt2 31 w_407 (Kx K w.heap.size [v_406.ownBlock, some b_1]) b_1 x1 := B_2.apd W A_408 (i := 0) rfl (j := 1) rfl (by decide)
          replace W : Wd w w_407 [v_406.ownBlock, some b_1] := W.apd A_408 (i := 0) rfl
          replace O_409 : Ow gt0 33 w_407 w.heap.size (Kx K w.heap.size [v_406.ownBlock, some b_1]) v_406 l_214 (capA (some 0) l_214.length) := O_409
          refine an_go (k := 3) (i := 9) (by kernel_rfl) rfl S rfl (op_append S W (E := 33) 0 rfl ty23 un23 by23 rfl rfl rfl rfl O_409 rfl R_403 el_227 ?_)
          clear S; intro a w_411 v_410 A_412 O_413 S
          replace R0 : RepV (.sl gt0) w_411 (Kx K w.heap.size [v_410.ownBlock, some b_1]) v0 x0 := R0.apd A_412 (i := 0) rfl
          replace R_241 : RepV (.sl gt0) w_411 (Kx K w.heap.size [v_410.ownBlock, some b_1]) v_240 s_213 := R_241.apd A_412 (i := 0) rfl
          replace R_243 : RepV (.sl gt0) w_411 (Kx K w.heap.size [v_410.ownBlock, some b_1]) v_242 s_234 := R_243.apd A_412 (i := 0) rfl
          replace R_323 : RepV (.sl (.int .u8)) w_411 (Kx K w.heap.size [v_410.ownBlock, some b_1]) v_322 x1.2.2.1 := R_323.apd A_412 (i := 0) rfl
          replace R_381 : RepV gt0 w_411 (Kx K w.heap.size [v_410.ownBlock, some b_1]) v_380 (x1.2.2.1, 1, 0) := R_381.apd A_412 (i := 0) rfl
          replace R_403 : RepV (.sl gt0) w_411 (Kx K w.heap.size [v_410.ownBlock, some b_1]) v_402 (⟨[(x1.2.2.1, 1, 0)], some 1⟩ : Sl ((Sl (Int)) × Int × Int)) := R_403.apd A_412 (i := 0) rfl
          replace B_2 : Bx gt2 31 w_411 (Kx K w.heap.size [v_410.ownBlock, some b_1]) b_1 x1 := B_2.apd W A_412 (i := 0) rfl (j := 1) rfl (by decide)
          replace W : Wd w w_411 [v_410.ownBlock, some b_1] := W.apd A_412 (i := 0) rfl
          replace O_413 : Ow gt0 33 w_411 w.heap.size (Kx K w.heap.size [v_410.ownBlock, some b_1]) v_410 l_227 (capA (capA (some 0) l_214.length) l_227.length) := O_413
          refine an_go (k := 2) (i := 13) (by kernel_rfl) rfl S rfl (op_append S W (E := 33) 0 rfl ty23 un23 by23 rfl rfl rfl rfl O_413 rfl R_243 el_235 ?_)
          clear S; intro a w_415 v_414 A_416 O_417 S
          replace R0 : RepV (.sl gt0) w_415 (Kx K w.heap.size [v_414.ownBlock, some b_1]) v0 x0 := R0.apd A_416 (i := 0) rfl
          replace R_241 : RepV (.sl gt0) w_415 (Kx K w.heap.size [v_414.ownBlock, some b_1]) v_240 s_213 := R_241.apd A_416 (i := 0) rfl
          replace R_243 : RepV (.sl gt0) w_415 (Kx K w.heap.size [v_414.ownBlock, some b_1]) v_242 s_234 := R_243.apd A_416 (i := 0) rfl
          replace R_323 : RepV (.sl (.int .u8)) w_415 (Kx K w.heap.size [v_414.ownBlock, some b_1]) v_322 x1.2.2.1 := R_323.apd A_416 (i := 0) rfl
          replace R_381 : RepV gt0 w_415 (Kx K w.heap.size [v_414.ownBlock, some b_1]) v_380 (x1.2.2.1, 1, 0) := R_381.apd A_416 (i := 0) rfl
          replace R_403 : RepV (.sl gt0) w_415 (Kx K w.heap.size [v_414.ownBlock, some b_1]) v_402 (⟨[(x1.2.2.1, 1, 0)], some 1⟩ : Sl ((Sl (Int)) × Int × Int)) := R_403.apd A_416 (i := 0) rfl
          replace B_2 : Bx gt2 31 w_415 (Kx K w.heap.size [v_414.ownBlock, some b_1]) b_1 x1 := B_2.apd W A_416 (i := 0) rfl (j := 1) rfl (by decide)
          replace W : Wd w w_415 [v_414.ownBlock, some b_1] := W.apd A_416 (i := 0) rfl
          replace O_417 : Ow gt0 33 w_415 w.heap.size (Kx K w.heap.size [v_414.ownBlock, some b_1]) v_414 l_235 (capA (capA (capA (some 0) l_214.length) l_227.length) l_235.length) := O_417
          refine an_pures (k := 0) (l1 := [(5, .int .i64 0), (4, v_414), (78, v_414), (74, v_410), (69, v_406), (73, v_402), (65, (.slice (some ⟨b_382, 0, .none⟩) 0 0)), (72, v_380), (71, v_322), (77, v_242), (68, v_240), (76, .int .i64 y_47), (75, v0), (70, .pointer (some ((⟨b_1, 0, .none⟩ : Addr).add (coff gf2 2)))), (67, .int .i64 y_47), (66, v0), (0, v0), (3, pB b_1), (8, .int .i64 y_47)]) tys tys_ok (by kernel_rfl) hQ_ [14, 15] S (by kernel_rfl) (by kernel_rfl) ?_; clear S; intro a S
          refine an_end (by kernel_rfl) ?_
          refine then_n ?_
          exact ⟨v_414, S.sub (by exact ⟨rfl, rfl, trivial⟩), W, B_2, O_417.forget⟩
        ·
         refine an_step (i := 8) rfl S rfl (op_buildSlice (K := K) (e := gt0) (vs := [v_380]) (xs := [(x1.2.2.1, 1, 0)]) S W rfl ty23 rfl rfl (by kernel_rfl) rfl rfl rfl rfl rfl ⟨R_381, trivial⟩ ?_)
         clear S; intro a w_421 v_418 hb_420 R_419 S
         replace R0 := R0.step hb_420
         replace R_241 := R_241.step hb_420
         replace R_243 := R_243.step hb_420
         replace R_323 := R_323.step hb_420
         replace R_381 := R_381.step hb_420
         replace B_2 := B_2.step hb_420
         replace W := W.step hb_420
         refine an_go (k := 5) (i := 0) (by kernel_rfl) rfl S rfl (op_row0 (K := K) (e := gt0) (E := 33) S W rfl ty23 un23 rfl rfl ?_)
         clear S; intro a w_423 b_422 hb_424 O_425 S
         replace R0 := R0.box hb_424
         replace R_241 := R_241.box hb_424
         replace R_243 := R_243.box hb_424
         replace R_323 := R_323.box hb_424
         replace R_381 := R_381.box hb_424
         replace R_419 := R_419.box hb_424
         replace B_2 := B_2.box hb_424
         replace W := W.box hb_424
         replace O_425 : Ow gt0 33 w_423 w.heap.size (Kx K w.heap.size [some b_422, some b_1]) (.slice (some ⟨b_422, 0, .none⟩) 0 0) ([] : List ((Sl (Int)) × Int × Int)) (some 0) := O_425
         refine an_go (k := 4) (i := 4) (by kernel_rfl) rfl S rfl (op_append S W (E := 33) 0 rfl ty23 un23 by23 rfl rfl rfl rfl O_425 rfl R_241 el_214 ?_)
         clear S; intro a w_427 v_426 A_428 O_429 S
         replace R0 : RepV (.sl gt0) w_427 (Kx K w.heap.size [v_426.ownBlock, some b_1]) v0 x0 := R0.apd A_428 (i := 0) rfl
         replace R_241 : RepV (.sl gt0) w_427 (Kx K w.heap.size [v_426.ownBlock, some b_1]) v_240 s_213 := R_241.apd A_428 (i := 0) rfl
         replace R_243 : RepV (.sl gt0) w_427 (Kx K w.heap.size [v_426.ownBlock, some b_1]) v_242 s_234 := R_243.apd A_428 (i := 0) rfl
         replace R_323 : RepV (.sl (.int .u8)) w_427 (Kx K w.heap.size [v_426.ownBlock, some b_1]) v_322 x1.2.2.1 := R_323.apd A_428 (i := 0) rfl
         replace R_381 : RepV gt0 w_427 (Kx K w.heap.size [v_426.ownBlock, some b_1]) v_380 (x1.2.2.1, 1, 0) := R_381.apd A_428 (i := 0) rfl
         replace R_419 : RepV (.sl gt0) w_427 (Kx K w.heap.size [v_426.ownBlock, some b_1]) v_418 (⟨[(x1.2.2.1, 1, 0)], some 1⟩ : Sl ((Sl (Int)) × Int × Int)) := R_419.apd A_428 (i := 0) rfl
         replace B_2 : Bx gt2 31 w_427 (Kx K w.heap.size [v_426.ownBlock, some b_1]) b_1 x1 := B_2.apd W A_428 (i := 0) rfl (j := 1) rfl (by decide)
         replace W : Wd w w_427 [v_426.ownBlock, some b_1] := W.apd A_428 (i := 0) rfl
         replace O_429 : Ow gt0 33 w_427 w.heap.size (Kx K w.heap.size [v_426.ownBlock, some b_1]) v_426 l_214 (capA (some 0) l_214.length) := O_429
         refine an_go (k := 3) (i := 9) (by kernel_rfl) rfl S rfl (op_append S W (E := 33) 0 rfl ty23 un23 by23 rfl rfl rfl rfl O_429 rfl R_419 el_227 ?_)
         clear S; intro a w_431 v_430 A_432 O_433 S
         replace R0 : RepV (.sl gt0) w_431 (Kx K w.heap.size [v_430.ownBlock, some b_1]) v0 x0 := R0.apd A_432 (i := 0) rfl
         replace R_241 : RepV (.sl gt0) w_431 (Kx K w.heap.size [v_430.ownBlock, some b_1]) v_240 s_213 := R_241.apd A_432 (i := 0) rfl
         replace R_243 : RepV (.sl gt0) w_431 (Kx K w.heap.size [v_430.ownBlock, some b_1]) v_242 s_234 := R_243.apd A_432 (i := 0) rfl
         replace R_323 : RepV (.sl (.int .u8)) w_431 (Kx K w.heap.size [v_430.ownBlock, some b_1]) v_322 x1.2.2.1 := R_323.apd A_432 (i := 0) rfl
         replace R_381 : RepV gt0 w_431 (Kx K w.heap.size [v_430.ownBlock, some b_1]) v_380 (x1.2.2.1, 1, 0) := R_381.apd A_432 (i := 0) rfl
         replace R_419 : RepV (.sl gt0) w_431 (Kx K w.heap.size [v_430.ownBlock, some b_1]) v_418 (⟨[(x1.2.2.1, 1, 0)], some 1⟩ : Sl ((Sl (Int)) × Int × Int)) := R_419.apd A_432 (i := 0) rfl
         replace B_2 : Bx gt2 31 w_431 (Kx K w.heap.size [v_430.ownBlock, some b_1]) b_1 x1 := B_2.apd W A_432 (i := 0) rfl (j := 1) rfl (by decide)
         replace W : Wd w w_431 [v_430.ownBlock, some b_1] := W.apd A_432 (i := 0) rfl
         replace O_433 : Ow gt0 33 w_431 w.heap.size (Kx K w.heap.size [v_430.ownBlock, some b_1]) v_430 l_227 (capA (capA (some 0) l_214.length) l_227.length) := O_433
         refine an_go (k := 2) (i := 13) (by kernel_rfl) rfl S rfl (op_append S W (E := 33) 0 rfl ty23 un23 by23 rfl rfl rfl rfl O_433 rfl R_243 el_235 ?_)
         clear S; intro a w_435 v_434 A_436 O_437 S
         replace R0 : RepV (.sl gt0) w_435 (Kx K w.heap.size [v_434.ownBlock, some b_1]) v0 x0 := R0.apd A_436 (i := 0) rfl
         replace R_241 : RepV (.sl gt0) w_435 (Kx K w.heap.size [v_434.ownBlock, some b_1]) v_240 s_213 := R_241.apd A_436 (i := 0) rfl
         replace R_243 : RepV (.sl gt0) w_435 (Kx K w.heap.size [v_434.ownBlock, some b_1]) v_242 s_234 := R_243.apd A_436 (i := 0) rfl
         replace R_323 : RepV (.sl (.int .u8)) w_435 (Kx K w.heap.size [v_434.ownBlock, some b_1]) v_322 x1.2.2.1 := R_323.apd A_436 (i := 0) rfl
         replace R_381 : RepV gt0 w_435 (Kx K w.heap.size [v_434.ownBlock, some b_1]) v_380 (x1.2.2.1, 1, 0) := R_381.apd A_436 (i := 0) rfl
         replace R_419 : RepV (.sl gt0) w_435 (Kx K w.heap.size [v_434.ownBlock, some b_1]) v_418 (⟨[(x1.2.2.1, 1, 0)], some 1⟩ : Sl ((Sl (Int)) × Int × Int)) := R_419.apd A_436 (i := 0) rfl
         replace B_2 : Bx gt2 31 w_435 (Kx K w.heap.size [v_434.ownBlock, some b_1]) b_1 x1 := B_2.apd W A_436 (i := 0) rfl (j := 1) rfl (by decide)
         replace W : Wd w w_435 [v_434.ownBlock, some b_1] := W.apd A_436 (i := 0) rfl
         replace O_437 : Ow gt0 33 w_435 w.heap.size (Kx K w.heap.size [v_434.ownBlock, some b_1]) v_434 l_235 (capA (capA (capA (some 0) l_214.length) l_227.length) l_235.length) := O_437
         refine an_pures (k := 0) (l1 := [(5, .int .i64 0), (4, v_434), (78, v_434), (74, v_430), (69, v_426), (65, (.slice (some ⟨b_422, 0, .none⟩) 0 0)), (73, v_418), (72, v_380), (71, v_322), (77, v_242), (68, v_240), (76, .int .i64 y_47), (75, v0), (70, .pointer (some ((⟨b_1, 0, .none⟩ : Addr).add (coff gf2 2)))), (67, .int .i64 y_47), (66, v0), (0, v0), (3, pB b_1), (8, .int .i64 y_47)]) tys tys_ok (by kernel_rfl) hQ_ [14, 15] S (by kernel_rfl) (by kernel_rfl) ?_; clear S; intro a S
         refine an_end (by kernel_rfl) ?_
         refine then_n ?_
         exact ⟨v_434, S.sub (by exact ⟨rfl, rfl, trivial⟩), W, B_2, O_437.forget⟩
     clear S W; rintro a w_438 ⟨v_203, S, W, B_2, O_204⟩
     refine then_n ?_
     refine wp_ret ?_
     refine then_r ?_
     obtain rfl := Option.some.inj h
     exact b_ret2 S rfl rfl rfl ⟨_, _, rfl, (O_204.lessO 0 rfl), (RepV.mkInt (by decide)), W.below⟩
 ·intro hc
  rw [if_neg (Bool.eq_false_iff.1 hc)] at h
  refine wp_skip ?_
  refine then_n ?_
  replace S := S.sub (l' := [(6, .int .i64 t_7), (3, pB b_1), (0, v0)]) (by exact ⟨rfl, rfl, rfl, trivial⟩)
  refine wp_seq ?_
  refine wp_seq ?_
  refine wp_region_lit ?_
  refine wl_pure (l' := [(80, .bool (decide (t_7 < 0))), (79, .int .i64 t_7), (6, .int .i64 t_7), (3, pB b_1), (0, v0)]) S tys tys_ok 2 (by kernel_rfl) ?_
  clear S; intro a S
  refine wpList_nil ?_
  refine then_n ?_
  replace S := S.sub (l' := [(80, .bool (decide (t_7 < 0))), (6, .int .i64 t_7), (3, pB b_1), (0, v0)]) (by exact ⟨rfl, rfl, rfl, rfl, trivial⟩)
  refine wp_cond_split (S.eval (show ev _ _ = some (.bool (decide (t_7 < 0))) from rfl)) ?_ ?_
  ·intro hc
   rw [if_pos hc] at h
   refine wp_seq ?_
   refine wp_region_lit ?_
   refine wl_pureK (l' := [(5, .int .i64 7), (4, .slice .none 0 0)]) S tys tys_ok 2 [5, 4] (by kernel_rfl) ?_
   clear S; intro a S
   refine wpList_nil ?_
   refine then_n ?_
   refine wp_ret ?_
   refine then_r ?_
   replace B_2 := B_2.more
   replace W := W.more
   have O_439 : Ow gt0 33 w_11 w.heap.size (Kx K w.heap.size [.none, some b_1]) (.slice .none 0 0) ([] : List ((Sl (Int)) × Int × Int)) (some 0) := Ow.nil
   obtain rfl := Option.some.inj h
   exact b_ret2 S rfl rfl rfl ⟨_, _, rfl, (O_439.lessO 0 rfl), (RepV.mkInt (by decide)), W.below⟩
  ·intro hc
   rw [if_neg (Bool.eq_false_iff.1 hc)] at h
   refine wp_skip ?_
   refine then_n ?_
   replace S := S.sub (l' := [(6, .int .i64 t_7), (3, pB b_1), (0, v0)]) (by exact ⟨rfl, rfl, rfl, trivial⟩)
   refine wp_seq ?_
   refine wp_seq ?_
   refine wp_region_lit ?_
   refine wl_pure (l' := [(81, .pointer (some ((⟨b_1, 0, .none⟩ : Addr).add (coff gf2 1)))), (6, .int .i64 t_7), (3, pB b_1), (0, v0)]) S tys tys_ok 1 (by kernel_rfl) ?_
   clear S; intro a S
   refine w_go S rfl (op_load (t := (.int .u8)) (x := x1.2.1) S rfl ty29 rfl rfl rfl (RepAt.add 1 (RepAt.st (t := gf2) B_2.at_)) ?_)
   clear S; intro a v_440 R_441 S
   obtain ⟨rfl, GR_441⟩ := RepV.int R_441
   refine wl_pure (l' := [(83, .bool (x1.2.1 == 4)), (82, .int .u8 x1.2.1), (81, .pointer (some ((⟨b_1, 0, .none⟩ : Addr).add (coff gf2 1)))), (6, .int .i64 t_7), (3, pB b_1), (0, v0)]) S tys tys_ok 1 (by kernel_rfl) ?_
   clear S; intro a S
   refine wpList_nil ?_
   refine then_n ?_
   replace S := S.sub (l' := [(83, .bool (x1.2.1 == 4)), (6, .int .i64 t_7), (3, pB b_1), (0, v0)]) (by exact ⟨rfl, rfl, rfl, rfl, trivial⟩)
   refine wp_cond_split (S.eval (show ev _ _ = some (.bool (x1.2.1 == 4)) from rfl)) ?_ ?_
   ·intro hc
    rw [if_pos hc] at h
    refine wp_seq ?_
    refine wp_seq ?_
    refine wp_region_lit ?_
    refine wl_pure (l' := [(9, .int .i64 0), (83, .bool (x1.2.1 == 4)), (6, .int .i64 t_7), (3, pB b_1), (0, v0)]) S tys tys_ok 1 (by kernel_rfl) ?_
    clear S; intro a S
    refine wpList_nil ?_
    refine then_n ?_
    replace S := S.sub (l' := [(9, .int .i64 0), (6, .int .i64 t_7), (3, pB b_1), (0, v0)]) (by exact ⟨rfl, rfl, rfl, rfl, trivial⟩)
    obtain ⟨y_446, ey_446, h⟩ := bindS h
    refine wp_cut_ (fun a_ w_ => ∃ s_447 : Unit, y_446 = .inl s_447 ∧ (St 149 a_ [(0, v0), (6, .int .i64 t_7)] ∧ Wd w w_ [some b_1] ∧ RepV (.sl gt0) w_ (Kx K w.heap.size [some b_1]) v0 x0 ∧ Bx gt2 31 w_ (Kx K w.heap.size [some b_1]) b_1 x1)) ?_ ?_
    ·refine wp_block ?_
     refine wp_loop_n (fun m_ a_ w_ => ∃ (c_442 : Int) , St 149 a_ [(9, .int .i64 c_442), (6, .int .i64 t_7), (3, pB b_1), (0, v0)] ∧ Wd w w_ [some b_1] ∧ InR .i64 c_442 ∧ RepV (.sl gt0) w_ (Kx K w.heap.size [some b_1]) v0 x0 ∧ Bx gt2 31 w_ (Kx K w.heap.size [some b_1]) b_1 x1 ∧ p14_l2 n x0 x1 m_ c_442 = some y_446) n ?_ ?_
     ·skip
      exact ⟨0, ⟨S.sub (by exact ⟨rfl, rfl, rfl, rfl, trivial⟩), W, (show InR .i64 0 by decide), R0, B_2, ey_446⟩⟩
     ·clear S W; rintro m_448 a w_450 ⟨c_442, S, W, G_443, R0, B_2, hl_449⟩
      cases m_448 with
      | zero => exact absurd hl_449 (by simp [p14_l2])
      | succ m_448 =>
       refine ⟨m_448, rfl, ?_⟩
       rw [p14_l2] at hl_449
       refine wp_seq ?_
       refine wp_seq ?_
       refine wp_region_lit ?_
       refine wl_pure (l' := [(85, v0), (84, .int .i64 c_442), (9, .int .i64 c_442), (6, .int .i64 t_7), (3, pB b_1), (0, v0)]) S tys tys_ok 2 (by kernel_rfl) ?_
       clear S; intro a S
       refine w_go S rfl (op_len (K := _) S rfl ty23 rfl rfl rfl R0 ?_)
       clear S; intro a G_451 S
       refine wl_pureK (l' := [(87, .bool (decide (c_442 < (lenI x0)))), (9, .int .i64 c_442), (6, .int .i64 t_7), (3, pB b_1), (0, v0)]) S tys tys_ok 1 [87, 9, 6, 3, 0] (by kernel_rfl) ?_
       clear S; intro a S
       refine wpList_nil ?_
       refine then_n ?_
       refine wp_cond_split (S.eval (show ev _ _ = some (.bool (decide (c_442 < (lenI x0)))) from rfl)) ?_ ?_
       ·intro hc
        rw [if_pos hc] at hl_449
        refine wp_skip ?_
        refine then_n ?_
        replace S := S.sub (l' := [(9, .int .i64 c_442), (6, .int .i64 t_7), (3, pB b_1), (0, v0)]) (by exact ⟨rfl, rfl, rfl, rfl, trivial⟩)
        refine wp_seq ?_
        refine wp_block ?_
        refine wp_seq ?_
        obtain ⟨y_452, ey_452, hl_449⟩ := bindS hl_449
        obtain ⟨t_460, et_460, hl_449⟩ := bindS hl_449
        have hR : Rel (Kx K w.heap.size [some b_1]) Bl := Bl.rel _
        refine wp_region_all hR [isRep (.sl gt0) (Kx K w.heap.size [some b_1]) x0, isI .i64 c_442, isEl gt0 (Kx K w.heap.size [some b_1]) y_452, isEl (.sl (.int .u8)) (Kx K w.heap.size [some b_1]) y_452.1, isRep (.sl (.int .u8)) (Kx K w.heap.size [some b_1]) y_452.1, eqv (.pointer (some ((⟨b_1, 0, .none⟩ : Addr).add (coff gf2 2)))), isRep (.sl (.int .u8)) (Kx K w.heap.size [some b_1]) x1.2.2.1, eqv (.bool t_460)] [[], [], [(0, 90), (1, 91)], [(2, 92)], [(3, 93)], [], [(5, 95)], [(4, 94), (6, 96)]] (by kernel_rfl) (by rw [S.size]; kernel_rfl) (by kernel_rfl) (by kernel_rfl) rfl ⟨(stab_rep hR), stab_I, (stab_el hR), (stab_el hR), (stab_rep hR), (stab_eqv _), (stab_rep hR), (stab_eqv _), trivial⟩ ?_ ?_
        ·
         refine RunAll.cons (isRep (.sl gt0) (Kx K w.heap.size [some b_1]) x0) [] rfl rfl ?_ ?_
         ·intro W_ hW
          have S1 := S
          replace R0 := R0.step hW
          exact RPost.one (v := v0) S1 tys tys_ok rfl (by kernel_rfl) S.defers R0 (Below.refl _ _)
         refine RunAll.cons (isI .i64 c_442) [] rfl rfl ?_ ?_
         ·intro W_ hW
          have S1 := S
          exact RPost.one (v := .int .i64 c_442) S1 tys tys_ok rfl (by kernel_rfl) S.defers ⟨rfl, G_443⟩ (Below.refl _ _)
         refine RunAll.cons (isEl gt0 (Kx K w.heap.size [some b_1]) y_452) [(isRep (.sl gt0) (Kx K w.heap.size [some b_1]) x0, 90), (isI .i64 c_442, 91)] rfl rfl ?_ ?_
         ·intro W_ hW
          have S1 := S
          intro v_466 hF_465; replace hF_465 : RepV _ _ _ _ _ := hF_465
          replace S1 := S1.put (by decide : 90 < 149) (v_466)
          rintro _ ⟨rfl, hF_467⟩
          replace S1 := S1.put (by decide : 91 < 149) (.int .i64 c_442)
          refine fill_nil S1 ?_; clear S1; intro a_ S1
          replace W := W.step hW
          have S0 := S.defers; replace S := S1; clear S1
          refine w_go S rfl (op_indexAddr S rfl ty23 rfl rfl rfl hF_465 rfl ey_452 ?_)
          clear S; intro a p_469 R_470 H_471 S
          refine wpList_nil ?_
          exact RPost.mk_ S rfl S0 ⟨_, rfl, R_470, H_471⟩ (Below.refl _ _)
         refine RunAll.cons (isEl (.sl (.int .u8)) (Kx K w.heap.size [some b_1]) y_452.1) [(isEl gt0 (Kx K w.heap.size [some b_1]) y_452, 92)] rfl rfl ?_ ?_
         ·intro W_ hW
          have S1 := S
          rintro _ ⟨p_474, rfl, R_475, H_476⟩
          replace S1 := S1.put (by decide : 92 < 149) (.pointer (some p_474))
          exact RPost.one (v := .pointer (some (p_474.add (coff gf0 0)))) S1 tys tys_ok rfl (by kernel_rfl) S.defers ⟨_, rfl, (RepAt.add 0 (RepAt.st (t := gf0) R_475)), (by simpa [Addr.add] using H_476)⟩ (Below.refl _ _)
         refine RunAll.cons (isRep (.sl (.int .u8)) (Kx K w.heap.size [some b_1]) y_452.1) [(isEl (.sl (.int .u8)) (Kx K w.heap.size [some b_1]) y_452.1, 93)] rfl rfl ?_ ?_
         ·intro W_ hW
          have S1 := S
          rintro _ ⟨p_479, rfl, R_480, H_481⟩
          replace S1 := S1.put (by decide : 93 < 149) (.pointer (some p_479))
          refine fill_nil S1 ?_; clear S1; intro a_ S1
          have S0 := S.defers; replace S := S1; clear S1
          refine w_go S rfl (op_load (t := (.sl (.int .u8))) (x := y_452.1) S rfl ty25 rfl rfl rfl R_480 ?_)
          clear S; intro a v_482 R_483 S
          refine wpList_nil ?_
          exact RPost.mk_ S rfl S0 R_483 (Below.refl _ _)
         refine RunAll.cons (eqv (.pointer (some ((⟨b_1, 0, .none⟩ : Addr).add (coff gf2 2))))) [] rfl rfl ?_ ?_
         ·intro W_ hW
          have S1 := S
          replace B_2 := B_2.step hW
          exact RPost.one (v := .pointer (some ((⟨b_1, 0, .none⟩ : Addr).add (coff gf2 2)))) S1 tys tys_ok rfl (by kernel_rfl) S.defers rfl (Below.refl _ _)
         refine RunAll.cons (isRep (.sl (.int .u8)) (Kx K w.heap.size [some b_1]) x1.2.2.1) [(eqv (.pointer (some ((⟨b_1, 0, .none⟩ : Addr).add (coff gf2 2)))), 95)] rfl rfl ?_ ?_
         ·intro W_ hW
          have S1 := S
          intro v_485 hF_484; obtain rfl : .pointer (some ((⟨b_1, 0, .none⟩ : Addr).add (coff gf2 2))) = v_485 := Eq.symm hF_484
          replace S1 := S1.put (by decide : 95 < 149) (.pointer (some ((⟨b_1, 0, .none⟩ : Addr).add (coff gf2 2))))
          refine fill_nil S1 ?_; clear S1; intro a_ S1
          replace B_2 := B_2.step hW
          have S0 := S.defers; replace S := S1; clear S1
          refine w_go S rfl (op_load (t := (.sl (.int .u8))) (x := x1.2.2.1) S rfl ty25 rfl rfl rfl (RepAt.add 2 (RepAt.st (t := gf2) B_2.at_)) ?_)
          clear S; intro a v_486 R_487 S
          refine wpList_nil ?_
          exact RPost.mk_ S rfl S0 R_487 (Below.refl _ _)
         refine RunAll.cons (eqv (.bool t_460)) [(isRep (.sl (.int .u8)) (Kx K w.heap.size [some b_1]) y_452.1, 94), (isRep (.sl (.int .u8)) (Kx K w.heap.size [some b_1]) x1.2.2.1, 96)] rfl rfl ?_ ?_
         ·intro W_ hW
          have S1 := S
          intro v_489 hF_488; replace hF_488 : RepV _ _ _ _ _ := hF_488
          replace S1 := S1.put (by decide : 94 < 149) (v_489)
          intro v_491 hF_490; replace hF_490 : RepV _ _ _ _ _ := hF_490
          replace S1 := S1.put (by decide : 96 < 149) (v_491)
          refine fill_nil S1 ?_; clear S1; intro a_ S1
          replace W := W.step hW
          have S0 := S.defers; replace S := S1; clear S1
          refine w_go S rfl (op_call (vs := [v_489, v_491]) S rfl cb27 rfl rfl rfl (c27 (Kx K w.heap.size [some b_1]) n W_ y_452.1 _ hF_488 x1.2.2.1 _ hF_490 et_460) ?_)
          rintro _ w_495 ⟨v_492, rfl, R_493, hb_494⟩; refine ⟨_, rfl, ?_⟩
          replace R_493 := RepV.back R_493 W
          clear S; intro a S
          obtain rfl := RepV.bool R_493
          refine wpList_nil ?_
          exact RPost.mk_ S rfl S0 rfl (hb_494)
         exact trivial
        intro w_496 hb_497
        refine EndE.some_ rfl ?_
        intro v_499 hF_498; replace hF_498 : RepV _ _ _ _ _ := hF_498
        replace S := S.put (by decide : 90 < 149) (v_499)
        refine EndE.some_ rfl ?_
        rintro _ ⟨rfl, hF_500⟩
        replace S := S.put (by decide : 91 < 149) (.int .i64 c_442)
        refine EndE.some_ rfl ?_
        rintro _ ⟨p_504, rfl, R_505, H_506⟩
        replace S := S.put (by decide : 92 < 149) (.pointer (some p_504))
        refine EndE.some_ rfl ?_
        rintro _ ⟨p_509, rfl, R_510, H_511⟩
        replace S := S.put (by decide : 93 < 149) (.pointer (some p_509))
        refine EndE.some_ rfl ?_
        intro v_513 hF_512; replace hF_512 : RepV _ _ _ _ _ := hF_512
        replace S := S.put (by decide : 94 < 149) (v_513)
        refine EndE.some_ rfl ?_
        intro v_515 hF_514; obtain rfl : .pointer (some ((⟨b_1, 0, .none⟩ : Addr).add (coff gf2 2))) = v_515 := Eq.symm hF_514
        replace S := S.put (by decide : 95 < 149) (.pointer (some ((⟨b_1, 0, .none⟩ : Addr).add (coff gf2 2))))
        refine EndE.some_ rfl ?_
        intro v_517 hF_516; replace hF_516 : RepV _ _ _ _ _ := hF_516
        replace S := S.put (by decide : 96 < 149) (v_517)
        refine EndE.some_ rfl ?_
        intro v_519 hF_518; obtain rfl : .bool t_460 = v_519 := Eq.symm hF_518
        replace S := S.put (by decide : 97 < 149) (.bool t_460)
        refine endE_nil S ?_; clear S; intro a S
        replace R0 := R0.step hb_497
        replace B_2 := B_2.step hb_497
        replace W := W.step hb_497
        refine then_n ?_
        replace S := S.sub (l' := [(97, .bool t_460), (9, .int .i64 c_442), (6, .int .i64 t_7), (3, pB b_1), (0, v0)]) (by exact ⟨rfl, rfl, rfl, rfl, rfl, trivial⟩)
        refine wp_cond_split (S.eval (show ev _ _ = some (.bool t_460) from rfl)) ?_ ?_
        ·intro hc
         rw [if_pos hc] at hl_449
         refine wp_seq ?_
         refine wp_region_lit ?_
         refine wl_pureK (l' := [(5, .int .i64 6), (4, .slice .none 0 0)]) S tys tys_ok 2 [5, 4] (by kernel_rfl) ?_
         clear S; intro a S
         refine wpList_nil ?_
         refine then_n ?_
         refine wp_ret ?_
         refine blk_r ?_
         refine then_r ?_
         refine then_r ?_
         refine blk_r ?_
         refine then_r ?_
         refine then_r ?_
         refine then_r ?_
         replace B_2 := B_2.more
         replace W := W.more
         have O_520 : Ow gt0 33 w_496 w.heap.size (Kx K w.heap.size [.none, some b_1]) (.slice .none 0 0) ([] : List ((Sl (Int)) × Int × Int)) (some 0) := Ow.nil
         obtain rfl := Option.some.inj hl_449
         obtain rfl := lr_inr h
         exact b_ret2 S rfl rfl rfl ⟨_, _, rfl, (O_520.lessO 0 rfl), (RepV.mkInt (by decide)), W.below⟩
        ·intro hc
         rw [if_neg (Bool.eq_false_iff.1 hc)] at hl_449
         refine wp_skip ?_
         refine blk_n ?_
         refine then_n ?_
         replace S := S.sub (l' := [(9, .int .i64 c_442), (6, .int .i64 t_7), (3, pB b_1), (0, v0)]) (by exact ⟨rfl, rfl, rfl, rfl, trivial⟩)
         refine wp_region_lit ?_
         refine wl_pure (l' := [(88, .int .i64 c_442), (9, .int .i64 c_442), (6, .int .i64 t_7), (3, pB b_1), (0, v0)]) S tys tys_ok 1 (by kernel_rfl) ?_
         clear S; intro a S
         obtain ⟨x_521, ex_521, hl_449⟩ := bindS hl_449
         refine w_go S rfl (op_arith S .i64 (c_442 + 1) rfl (.inl rfl) rfl rfl rfl rfl ex_521 ?_)
         clear S; intro a S
         refine wl_pure (l' := [(9, .int .i64 x_521), (89, .int .i64 x_521), (88, .int .i64 c_442), (9, .int .i64 c_442), (6, .int .i64 t_7), (3, pB b_1), (0, v0)]) S tys tys_ok 1 (by kernel_rfl) ?_
         clear S; intro a S
         refine wpList_nil ?_
         refine then_n ?_
         exact ⟨x_521, ⟨S.sub (by exact ⟨rfl, rfl, rfl, rfl, trivial⟩), W, (ckI_some ex_521).2.1, R0, B_2, hl_449⟩⟩
       ·intro hc
        rw [if_neg (Bool.eq_false_iff.1 hc)] at hl_449
        refine wp_exit ?_
        refine then_x ?_
        refine then_x ?_
        refine blk_hit ?_
        refine then_n ?_
        obtain rfl := Option.some.inj hl_449
        exact ⟨_, rfl, ⟨S.sub (by exact ⟨rfl, rfl, trivial⟩), W, R0, B_2⟩⟩
    clear S W; rintro a w_522 ⟨s_447, rfl, S, W, R0, B_2⟩
    replace h := lr_inl h; try dsimp only at h
    refine then_n ?_
    refine wp_seq ?_
    obtain ⟨j_523, ej_523, h⟩ := bindS h
    refine wp_cut_ (fun a_ w_ => ∃ (v_524 : Value), St 149 a_ [(5, .int .i64 0), (4, v_524)] ∧ Wd w w_ [v_524.ownBlock, some b_1] ∧ Bx gt2 31 w_ (Kx K w.heap.size [v_524.ownBlock, some b_1]) b_1 x1 ∧ Ow gt0 33 w_ w.heap.size (Kx K w.heap.size [v_524.ownBlock, some b_1]) v_524 j_523 .none) ?_ ?_
    ·
     replace S : St 149 a [(0, v0), (6, .int .i64 t_7)] := S.sub (by exact ⟨rfl, rfl, trivial⟩)
     refine wp_region_ord 12 (by kernel_rfl) rfl (by repeat (first | exact hq_body | refine hq_then ?_ | refine hq_blk ?_)) ?_; intro w_526 hb_527 hQ_
     replace R0 := R0.step hb_527
     replace B_2 := B_2.step hb_527
     replace W := W.step hb_527
     obtain ⟨s_534, es_534, ej_523⟩ := bindS ej_523
     obtain ⟨l_535, el_535, ej_523⟩ := bindS ej_523
     obtain ⟨x_540, ex_540, ej_523⟩ := bindS ej_523
     obtain ⟨s_543, es_543, ej_523⟩ := bindS ej_523
     obtain ⟨l_544, el_544, ej_523⟩ := bindS ej_523
     obtain rfl := Option.some.inj ej_523
     refine an_pures (k := 8) (l1 := [(104, .int .i64 t_7), (103, v0), (100, .int .i64 t_7), (99, v0), (0, v0), (6, .int .i64 t_7)]) tys tys_ok (by kernel_rfl) hQ_ [1, 2, 5, 6] S (by kernel_rfl) (by kernel_rfl) ?_; clear S; intro a S
     refine an_first (k := 7) (i := 3) (by kernel_rfl) hQ_ (by kernel_rfl) rfl rfl S rfl (op_slice S rfl ty23 rfl rfl rfl R0 (.inl ⟨rfl, rfl⟩) (.inr ⟨_, _, rfl, rfl⟩) es_534 ?_)
     clear S; intro a v_549 R_550 S
     intro _
     refine an_fork (k := 6) (is := [0, 7]) (by kernel_rfl) rfl ⟨?_, ?_, trivial⟩
     ·
      refine an_step (i := 0) rfl S rfl (op_row0 (K := K) (e := gt0) (E := 33) S W rfl ty23 un23 rfl rfl ?_)
      clear S; intro a w_552 b_551 hb_553 O_554 S
      replace R0 := R0.box hb_553
      replace R_550 := R_550.box hb_553
      replace B_2 := B_2.box hb_553
      replace W := W.box hb_553
      replace O_554 : Ow gt0 33 w_552 w.heap.size (Kx K w.heap.size [some b_551, some b_1]) (.slice (some ⟨b_551, 0, .none⟩) 0 0) ([] : List ((Sl (Int)) × Int × Int)) (some 0) := O_554
      refine an_fork (k := 5) (is := [4, 7]) (by kernel_rfl) rfl ⟨?_, ?_, trivial⟩
      ·
       refine an_step (i := 4) rfl S rfl (op_append S W (E := 33) 0 rfl ty23 un23 by23 rfl rfl rfl rfl O_554 rfl R_550 el_535 ?_)
       clear S; intro a w_556 v_555 A_557 O_558 S
       replace R0 : RepV (.sl gt0) w_556 (Kx K w.heap.size [v_555.ownBlock, some b_1]) v0 x0 := R0.apd A_557 (i := 0) rfl
       replace R_550 : RepV (.sl gt0) w_556 (Kx K w.heap.size [v_555.ownBlock, some b_1]) v_549 s_534 := R_550.apd A_557 (i := 0) rfl
       replace B_2 : Bx gt2 31 w_556 (Kx K w.heap.size [v_555.ownBlock, some b_1]) b_1 x1 := B_2.apd W A_557 (i := 0) rfl (j := 1) rfl (by decide)
       replace W : Wd w w_556 [v_555.ownBlock, some b_1] := W.apd A_557 (i := 0) rfl
       replace O_558 : Ow gt0 33 w_556 w.heap.size (Kx K w.heap.size [v_555.ownBlock, some b_1]) v_555 l_535 (capA (some 0) l_535.length) := O_558
       refine an_go (k := 4) (i := 7) (by kernel_rfl) rfl S rfl (op_arith S .i64 (t_7 + 1) rfl (.inl rfl) rfl rfl rfl rfl ex_540 ?_)
       clear S; intro a S
       refine an_go (k := 3) (i := 8) (by kernel_rfl) rfl S rfl (op_slice S rfl ty23 rfl rfl rfl R0 (.inr ⟨_, _, rfl, rfl⟩) (.inl ⟨rfl, rfl⟩) es_543 ?_)
       clear S; intro a v_559 R_560 S
       refine an_go (k := 2) (i := 9) (by kernel_rfl) rfl S rfl (op_append S W (E := 33) 0 rfl ty23 un23 by23 rfl rfl rfl rfl O_558 rfl R_560 el_544 ?_)
       clear S; intro a w_562 v_561 A_563 O_564 S
       replace R0 : RepV (.sl gt0) w_562 (Kx K w.heap.size [v_561.ownBlock, some b_1]) v0 x0 := R0.apd A_563 (i := 0) rfl
       replace R_550 : RepV (.sl gt0) w_562 (Kx K w.heap.size [v_561.ownBlock, some b_1]) v_549 s_534 := R_550.apd A_563 (i := 0) rfl
       replace R_560 : RepV (.sl gt0) w_562 (Kx K w.heap.size [v_561.ownBlock, some b_1]) v_559 s_543 := R_560.apd A_563 (i := 0) rfl
       replace B_2 : Bx gt2 31 w_562 (Kx K w.heap.size [v_561.ownBlock, some b_1]) b_1 x1 := B_2.apd W A_563 (i := 0) rfl (j := 1) rfl (by decide)
       replace W : Wd w w_562 [v_561.ownBlock, some b_1] := W.apd A_563 (i := 0) rfl
       replace O_564 : Ow gt0 33 w_562 w.heap.size (Kx K w.heap.size [v_561.ownBlock, some b_1]) v_561 l_544 (capA (capA (some 0) l_535.length) l_544.length) := O_564
       refine an_pures (k := 0) (l1 := [(5, .int .i64 0), (4, v_561), (107, v_561), (106, v_559), (105, .int .i64 x_540), (102, v_555), (98, (.slice (some ⟨b_551, 0, .none⟩) 0 0)), (101, v_549), (104, .int .i64 t_7), (103, v0), (100, .int .i64 t_7), (99, v0), (0, v0), (6, .int .i64 t_7)]) tys tys_ok (by kernel_rfl) hQ_ [10, 11] S (by kernel_rfl) (by kernel_rfl) ?_; clear S; intro a S
       refine an_end (by kernel_rfl) ?_
       refine then_n ?_
       exact ⟨v_561, S.sub (by exact ⟨rfl, rfl, trivial⟩), W, B_2, O_564.forget⟩
      ·
       refine an_step (i := 7) rfl S rfl (op_arith S .i64 (t_7 + 1) rfl (.inl rfl) rfl rfl rfl rfl ex_540 ?_)
       clear S; intro a S
       refine an_first (k := 4) (i := 8) (by kernel_rfl) hQ_ (by kernel_rfl) rfl rfl S rfl (op_slice S rfl ty23 rfl rfl rfl R0 (.inr ⟨_, _, rfl, rfl⟩) (.inl ⟨rfl, rfl⟩) es_543 ?_)
       clear S; intro a v_565 R_566 S
       intro _
       refine an_go (k := 3) (i := 4) (by kernel_rfl) rfl S rfl (op_append S W (E := 33) 0 rfl ty23 un23 by23 rfl rfl rfl rfl O_554 rfl R_550 el_535 ?_)
       clear S; intro a w_568 v_567 A_569 O_570 S
       replace R0 : RepV (.sl gt0) w_568 (Kx K w.heap.size [v_567.ownBlock, some b_1]) v0 x0 := R0.apd A_569 (i := 0) rfl
       replace R_550 : RepV (.sl gt0) w_568 (Kx K w.heap.size [v_567.ownBlock, some b_1]) v_549 s_534 := R_550.apd A_569 (i := 0) rfl
       replace R_566 : RepV (.sl gt0) w_568 (Kx K w.heap.size [v_567.ownBlock, some b_1]) v_565 s_543 := R_566.apd A_569 (i := 0) rfl
       replace B_2 : Bx gt2 31 w_568 (Kx K w.heap.size [v_567.ownBlock, some b_1]) b_1 x1 := B_2.apd W A_569 (i := 0) rfl (j := 1) rfl (by decide)
       replace W : Wd w w_568 [v_567.ownBlock, some b_1] := W.apd A_569 (i := 0) rfl
       replace O_570 : Ow gt0 33 w_568 w.heap.size (Kx K w.heap.size [v_567.ownBlock, some b_1]) v_567 l_535 (capA (some 0) l_535.length) := O_570
       refine an_go (k := 2) (i := 9) (by kernel_rfl) rfl S rfl (op_append S W (E := 33) 0 rfl ty23 un23 by23 rfl rfl rfl rfl O_570 rfl R_566 el_544 ?_)
       clear S; intro a w_572 v_571 A_573 O_574 S
       replace R0 : RepV (.sl gt0) w_572 (Kx K w.heap.size [v_571.ownBlock, some b_1]) v0 x0 := R0.apd A_573 (i := 0) rfl
       replace R_550 : RepV (.sl gt0) w_572 (Kx K w.heap.size [v_571.ownBlock, some b_1]) v_549 s_534 := R_550.apd A_573 (i := 0) rfl
       replace R_566 : RepV (.sl gt0) w_572 (Kx K w.heap.size [v_571.ownBlock, some b_1]) v_565 s_543 := R_566.apd A_573 (i := 0) rfl
       replace B_2 : Bx gt2 31 w_572 (Kx K w.heap.size [v_571.ownBlock, some b_1]) b_1 x1 := B_2.apd W A_573 (i := 0) rfl (j := 1) rfl (by decide)
       replace W : Wd w w_572 [v_571.ownBlock, some b_1] := W.apd A_573 (i := 0) rfl
       replace O_574 : Ow gt0 33 w_572 w.heap.size (Kx K w.heap.size [v_571.ownBlock, some b_1]) v_571 l_544 (capA (capA (some 0) l_535.length) l_544.length) := O_574
       refine an_pures (k := 0) (l1 := [(5, .int .i64 0), (4, v_571), (107, v_571), (102, v_567), (106, v_565), (105, .int .i64 x_540), (98, (.slice (some ⟨b_551, 0, .none⟩) 0 0)), (101, v_549), (104, .int .i64 t_7), (103, v0), (100, .int .i64 t_7), (99, v0), (0, v0), (6, .int .i64 t_7)]) tys tys_ok (by kernel_rfl) hQ_ [10, 11] S (by kernel_rfl) (by kernel_rfl) ?_; clear S; intro a S
       refine an_end (by kernel_rfl) ?_
       refine then_n ?_
       exact ⟨v_571, S.sub (by exact ⟨rfl, rfl, trivial⟩), W, B_2, O_574.forget⟩
     ·
      refine an_step (i := 7) rfl S rfl (op_arith S .i64 (t_7 + 1) rfl (.inl rfl) rfl rfl rfl rfl ex_540 ?_)
      clear S; intro a S
      refine an_first (k := 5) (i := 8) (by kernel_rfl) hQ_ (by kernel_rfl) rfl rfl S rfl (op_slice S rfl ty23 rfl rfl rfl R0 (.inr ⟨_, _, rfl, rfl⟩) (.inl ⟨rfl, rfl⟩) es_543 ?_)
      clear S; intro a v_575 R_576 S
      intro _
      refine an_go (k := 4) (i := 0) (by kernel_rfl) rfl S rfl (op_row0 (K := K) (e := gt0) (E := 33) S W rfl ty23 un23 rfl rfl ?_)
      clear S; intro a w_578 b_577 hb_579 O_580 S
      replace R0 := R0.box hb_579
      replace R_550 := R_550.box hb_579
      replace R_576 := R_576.box hb_579
      replace B_2 := B_2.box hb_579
      replace W := W.box hb_579
      replace O_580 : Ow gt0 33 w_578 w.heap.size (Kx K w.heap.size [some b_577, some b_1]) (.slice (some ⟨b_577, 0, .none⟩) 0 0) ([] : List ((Sl (Int)) × Int × Int)) (some 0) := O_580
      refine an_go (k := 3) (i := 4) (by kernel_rfl) rfl S rfl (op_append S W (E := 33) 0 rfl ty23 un23 by23 rfl rfl rfl rfl O_580 rfl R_550 el_535 ?_)
      clear S; intro a w_582 v_581 A_583 O_584 S
      replace R0 : RepV (.sl gt0) w_582 (Kx K w.heap.size [v_581.ownBlock, some b_1]) v0 x0 := R0.apd A_583 (i := 0) rfl
      replace R_550 : RepV (.sl gt0) w_582 (Kx K w.heap.size [v_581.ownBlock, some b_1]) v_549 s_534 := R_550.apd A_583 (i := 0) rfl
      replace R_576 : RepV (.sl gt0) w_582 (Kx K w.heap.size [v_581.ownBlock, some b_1]) v_575 s_543 := R_576.apd A_583 (i := 0) rfl
      replace B_2 : Bx gt2 31 w_582 (Kx K w.heap.size [v_581.ownBlock, some b_1]) b_1 x1 := B_2.apd W A_583 (i := 0) rfl (j := 1) rfl (by decide)
      replace W : Wd w w_582 [v_581.ownBlock, some b_1] := W.apd A_583 (i := 0) rfl
      replace O_584 : Ow gt0 33 w_582 w.heap.size (Kx K w.heap.size [v_581.ownBlock, some b_1]) v_581 l_535 (capA (some 0) l_535.length) := O_584
      refine an_go (k := 2) (i := 9) (by kernel_rfl) rfl S rfl (op_append S W (E := 33) 0 rfl ty23 un23 by23 rfl rfl rfl rfl O_584 rfl R_576 el_544 ?_)
      clear S; intro a w_586 v_585 A_587 O_588 S
      replace R0 : RepV (.sl gt0) w_586 (Kx K w.heap.size [v_585.ownBlock, some b_1]) v0 x0 := R0.apd A_587 (i := 0) rfl
      replace R_550 : RepV (.sl gt0) w_586 (Kx K w.heap.size [v_585.ownBlock, some b_1]) v_549 s_534 := R_550.apd A_587 (i := 0) rfl
      replace R_576 : RepV (.sl gt0) w_586 (Kx K w.heap.size [v_585.ownBlock, some b_1]) v_575 s_543 := R_576.apd A_587 (i := 0) rfl
      replace B_2 : Bx gt2 31 w_586 (Kx K w.heap.size [v_585.ownBlock, some b_1]) b_1 x1 := B_2.apd W A_587 (i := 0) rfl (j := 1) rfl (by decide)
      replace W : Wd w w_586 [v_585.ownBlock, some b_1] := W.apd A_587 (i := 0) rfl
      replace O_588 : Ow gt0 33 w_586 w.heap.size (Kx K w.heap.size [v_585.ownBlock, some b_1]) v_585 l_544 (capA (capA (some 0) l_535.length) l_544.length) := O_588
      refine an_pures (k := 0) (l1 := [(5, .int .i64 0), (4, v_585), (107, v_585), (102, v_581), (98, (.slice (some ⟨b_577, 0, .none⟩) 0 0)), (106, v_575), (105, .int .i64 x_540), (101, v_549), (104, .int .i64 t_7), (103, v0), (100, .int .i64 t_7), (99, v0), (0, v0), (6, .int .i64 t_7)]) tys tys_ok (by kernel_rfl) hQ_ [10, 11] S (by kernel_rfl) (by kernel_rfl) ?_; clear S; intro a S
      refine an_end (by kernel_rfl) ?_
      refine then_n ?_
      exact ⟨v_585, S.sub (by exact ⟨rfl, rfl, trivial⟩), W, B_2, O_588.forget⟩
    clear S W; rintro a w_589 ⟨v_524, S, W, B_2, O_525⟩
    refine then_n ?_
    refine wp_ret ?_
    refine then_r ?_
    obtain rfl := Option.some.inj h
    exact b_ret2 S rfl rfl rfl ⟨_, _, rfl, (O_525.lessO 0 rfl), (RepV.mkInt (by decide)), W.below⟩
   ·intro hc
    rw [if_neg (Bool.eq_false_iff.1 hc)] at h
    refine wp_skip ?_
    refine then_n ?_
    replace S := S.sub (l' := [(6, .int .i64 t_7), (3, pB b_1), (0, v0)]) (by exact ⟨rfl, rfl, rfl, trivial⟩)
    refine wp_seq ?_
    refine wp_seq ?_
    refine wp_region_lit ?_
    refine wl_pure (l' := [(109, .int .i64 t_7), (108, v0), (6, .int .i64 t_7), (3, pB b_1), (0, v0)]) S tys tys_ok 2 (by kernel_rfl) ?_
    clear S; intro a S
    obtain ⟨y_590, ey_590, h⟩ := bindS h
    refine w_go S rfl (op_indexAddr S rfl ty23 rfl rfl rfl R0 rfl ey_590 ?_)
    clear S; intro a p_591 R_592 H_593 S
    refine wl_pureK (l' := [(111, .pointer (some (p_591.add (coff gf0 1)))), (6, .int .i64 t_7), (3, pB b_1), (0, v0)]) S tys tys_ok 1 [111, 6, 3, 0] (by kernel_rfl) ?_
    clear S; intro a S
    refine w_go S rfl (op_load (t := (.int .u8)) (x := y_590.2.1) S rfl ty29 rfl rfl rfl (RepAt.add 1 (RepAt.st (t := gf0) R_592)) ?_)
    clear S; intro a v_594 R_595 S
    obtain ⟨rfl, GR_595⟩ := RepV.int R_595
    refine wl_pure (l' := [(113, .bool (y_590.2.1 != 1)), (112, .int .u8 y_590.2.1), (111, .pointer (some (p_591.add (coff gf0 1)))), (6, .int .i64 t_7), (3, pB b_1), (0, v0)]) S tys tys_ok 1 (by kernel_rfl) ?_
    clear S; intro a S
    refine wpList_nil ?_
    refine then_n ?_
    replace S := S.sub (l' := [(113, .bool (y_590.2.1 != 1)), (6, .int .i64 t_7), (3, pB b_1), (0, v0)]) (by exact ⟨rfl, rfl, rfl, rfl, trivial⟩)
    refine wp_cond_split (S.eval (show ev _ _ = some (.bool (y_590.2.1 != 1)) from rfl)) ?_ ?_
    ·intro hc
     rw [if_pos hc] at h
     refine wp_seq ?_
     refine wp_region_lit ?_
     refine wl_pureK (l' := [(5, .int .i64 6), (4, .slice .none 0 0)]) S tys tys_ok 2 [5, 4] (by kernel_rfl) ?_
     clear S; intro a S
     refine wpList_nil ?_
     refine then_n ?_
     refine wp_ret ?_
     refine then_r ?_
     replace B_2 := B_2.more
     replace W := W.more
     have O_596 : Ow gt0 33 w_11 w.heap.size (Kx K w.heap.size [.none, some b_1]) (.slice .none 0 0) ([] : List ((Sl (Int)) × Int × Int)) (some 0) := Ow.nil
     obtain rfl := Option.some.inj h
     exact b_ret2 S rfl rfl rfl ⟨_, _, rfl, (O_596.lessO 0 rfl), (RepV.mkInt (by decide)), W.below⟩
    ·intro hc
     rw [if_neg (Bool.eq_false_iff.1 hc)] at h
     refine wp_skip ?_
     refine then_n ?_
     replace S := S.sub (l' := [(6, .int .i64 t_7), (3, pB b_1), (0, v0)]) (by exact ⟨rfl, rfl, rfl, trivial⟩)
     refine wp_seq ?_
     refine wp_seq ?_
     refine wp_region_lit ?_
     refine wl_pure (l' := [(10, .int .i64 0), (6, .int .i64 t_7), (3, pB b_1), (0, v0)]) S tys tys_ok 1 (by kernel_rfl) ?_
     clear S; intro a S
     refine wpList_nil ?_
     refine then_n ?_
     obtain ⟨y_601, ey_601, h⟩ := bindS h
     refine wp_cut_ (fun a_ w_ => ∃ s_602 : Unit, y_601 = .inl s_602 ∧ (St 149 a_ [(0, v0), (3, pB b_1), (6, .int .i64 t_7)] ∧ Wd w w_ [some b_1] ∧ RepV (.sl gt0) w_ (Kx K w.heap.size [some b_1]) v0 x0 ∧ Bx gt2 31 w_ (Kx K w.heap.size [some b_1]) b_1 x1)) ?_ ?_
     ·refine wp_block ?_
      refine wp_loop_n (fun m_ a_ w_ => ∃ (c_597 : Int) , St 149 a_ [(10, .int .i64 c_597), (6, .int .i64 t_7), (3, pB b_1), (0, v0)] ∧ Wd w w_ [some b_1] ∧ InR .i64 c_597 ∧ RepV (.sl gt0) w_ (Kx K w.heap.size [some b_1]) v0 x0 ∧ Bx gt2 31 w_ (Kx K w.heap.size [some b_1]) b_1 x1 ∧ p14_l3 n x0 x1 m_ c_597 = some y_601) n ?_ ?_
      ·skip
       exact ⟨0, ⟨S.sub (by exact ⟨rfl, rfl, rfl, rfl, trivial⟩), W, (show InR .i64 0 by decide), R0, B_2, ey_601⟩⟩
      ·clear S W; rintro m_603 a w_605 ⟨c_597, S, W, G_598, R0, B_2, hl_604⟩
       cases m_603 with
       | zero => exact absurd hl_604 (by simp [p14_l3])
       | succ m_603 =>
        refine ⟨m_603, rfl, ?_⟩
        rw [p14_l3] at hl_604
        refine wp_seq ?_
        refine wp_seq ?_
        refine wp_region_lit ?_
        refine wl_pure (l' := [(115, v0), (114, .int .i64 c_597), (10, .int .i64 c_597), (6, .int .i64 t_7), (3, pB b_1), (0, v0)]) S tys tys_ok 2 (by kernel_rfl) ?_
        clear S; intro a S
        refine w_go S rfl (op_len (K := _) S rfl ty23 rfl rfl rfl R0 ?_)
        clear S; intro a G_606 S
        refine wl_pureK (l' := [(117, .bool (decide (c_597 < (lenI x0)))), (10, .int .i64 c_597), (6, .int .i64 t_7), (3, pB b_1), (0, v0)]) S tys tys_ok 1 [117, 10, 6, 3, 0] (by kernel_rfl) ?_
        clear S; intro a S
        refine wpList_nil ?_
        refine then_n ?_
        refine wp_cond_split (S.eval (show ev _ _ = some (.bool (decide (c_597 < (lenI x0)))) from rfl)) ?_ ?_
        ·intro hc
         rw [if_pos hc] at hl_604
         refine wp_skip ?_
         refine then_n ?_
         replace S := S.sub (l' := [(10, .int .i64 c_597), (6, .int .i64 t_7), (3, pB b_1), (0, v0)]) (by exact ⟨rfl, rfl, rfl, rfl, trivial⟩)
         refine wp_seq ?_
         refine wp_block ?_
         refine wp_seq ?_
         obtain ⟨q_609, eq_609, hl_604⟩ := bindS hl_604
         obtain ⟨y_611, HG_610⟩ : ∃ (y_611 : (Sl (Int)) × Int × Int) , ((x1.2.1 == 2) = true → (idx x0.xs c_597) = some y_611 ∧ (y_611.2.2 == x1.2.2.2) = q_609) ∧ (¬ (x1.2.1 == 2) = true → false = q_609) := by
          by_cases hc : (x1.2.1 == 2) = true
          ·rw [if_pos hc] at eq_609
           obtain ⟨y_611, ey_611, eq_609⟩ := bindS eq_609
           exact ⟨y_611, ⟨fun _ => ⟨ey_611, Option.some.inj eq_609⟩, fun k_ => absurd hc k_⟩⟩
          ·rw [if_neg hc] at eq_609
           exact ⟨default, ⟨fun k_ => absurd k_ hc, fun _ => Option.some.inj eq_609⟩⟩
         have hR : Rel (Kx K w.heap.size [some b_1]) Bl := Bl.rel _
         refine wp_region_all hR [eqv (.pointer (some ((⟨b_1, 0, .none⟩ : Addr).add (coff gf2 1)))), isI .u8 x1.2.1, eqv (.bool (x1.2.1 == 2)), eqv (.bool (x1.2.1 == 2)), cndF (x1.2.1 == 2) true (isRep (.sl gt0) (Kx K w.heap.size [some b_1]) x0), cndF (x1.2.1 == 2) true (isI .i64 c_597), cndF (x1.2.1 == 2) true (isEl gt0 (Kx K w.heap.size [some b_1]) y_611), cndF (x1.2.1 == 2) true (isEl (.int .u8) (Kx K w.heap.size [some b_1]) y_611.2.2), cndF (x1.2.1 == 2) true (isI .u8 y_611.2.2), cndF (x1.2.1 == 2) true (eqv (.pointer (some ((⟨b_1, 0, .none⟩ : Addr).add (coff gf2 3))))), cndF (x1.2.1 == 2) true (isI .u8 x1.2.2.2), cndF (x1.2.1 == 2) true (eqv (.bool (y_611.2.2 == x1.2.2.2))), eqv (.bool q_609)] [[], [(0, 120)], [(1, 121)], [(2, 122)], [(3, 123)], [(3, 123)], [(4, 124), (5, 125), (3, 123)], [(6, 126), (3, 123)], [(7, 127), (3, 123)], [(3, 123)], [(9, 129), (3, 123)], [(8, 128), (10, 130), (3, 123)], [(3, 123), (11, 131)]] (by kernel_rfl) (by rw [S.size]; kernel_rfl) (by kernel_rfl) (by kernel_rfl) rfl ⟨(stab_eqv _), stab_I, (stab_eqv _), (stab_eqv _), (stab_cnd (stab_rep hR)), (stab_cnd stab_I), (stab_cnd (stab_el hR)), (stab_cnd (stab_el hR)), (stab_cnd stab_I), (stab_cnd (stab_eqv _)), (stab_cnd stab_I), (stab_cnd (stab_eqv _)), (stab_eqv _), trivial⟩ ?_ ?_
         ·
          refine RunAll.cons (eqv (.pointer (some ((⟨b_1, 0, .none⟩ : Addr).add (coff gf2 1))))) [] rfl rfl ?_ ?_
          ·intro W_ hW
           have S1 := S
           replace B_2 := B_2.step hW
           exact RPost.one (v := .pointer (some ((⟨b_1, 0, .none⟩ : Addr).add (coff gf2 1)))) S1 tys tys_ok rfl (by kernel_rfl) S.defers rfl (Below.refl _ _)
          refine RunAll.cons (isI .u8 x1.2.1) [(eqv (.pointer (some ((⟨b_1, 0, .none⟩ : Addr).add (coff gf2 1)))), 120)] rfl rfl ?_ ?_
          ·intro W_ hW
           have S1 := S
           intro v_620 hF_619; obtain rfl : .pointer (some ((⟨b_1, 0, .none⟩ : Addr).add (coff gf2 1))) = v_620 := Eq.symm hF_619
           replace S1 := S1.put (by decide : 120 < 149) (.pointer (some ((⟨b_1, 0, .none⟩ : Addr).add (coff gf2 1))))
           refine fill_nil S1 ?_; clear S1; intro a_ S1
           replace B_2 := B_2.step hW
           have S0 := S.defers; replace S := S1; clear S1
           refine w_go S rfl (op_load (t := (.int .u8)) (x := x1.2.1) S rfl ty29 rfl rfl rfl (RepAt.add 1 (RepAt.st (t := gf2) B_2.at_)) ?_)
           clear S; intro a v_621 R_622 S
           obtain ⟨rfl, GR_622⟩ := RepV.int R_622
           refine wpList_nil ?_
           exact RPost.mk_ S rfl S0 ⟨rfl, GR_622⟩ (Below.refl _ _)
          refine RunAll.cons (eqv (.bool (x1.2.1 == 2))) [(isI .u8 x1.2.1, 121)] rfl rfl ?_ ?_
          ·intro W_ hW
           have S1 := S
           rintro _ ⟨rfl, hF_623⟩
           replace S1 := S1.put (by decide : 121 < 149) (.int .u8 x1.2.1)
           exact RPost.one (v := .bool (x1.2.1 == 2)) S1 tys tys_ok rfl (by kernel_rfl) S.defers rfl (Below.refl _ _)
          refine RunAll.cons (eqv (.bool (x1.2.1 == 2))) [(eqv (.bool (x1.2.1 == 2)), 122)] rfl rfl ?_ ?_
          ·intro W_ hW
           have S1 := S
           intro v_626 hF_625; obtain rfl : .bool (x1.2.1 == 2) = v_626 := Eq.symm hF_625
           replace S1 := S1.put (by decide : 122 < 149) (.bool (x1.2.1 == 2))
           exact RPost.one (v := .bool (x1.2.1 == 2)) S1 tys tys_ok rfl (by kernel_rfl) S.defers rfl (Below.refl _ _)
          refine RunAll.cons (cndF (x1.2.1 == 2) true (isRep (.sl gt0) (Kx K w.heap.size [some b_1]) x0)) [(eqv (.bool (x1.2.1 == 2)), 123)] rfl rfl ?_ ?_
          ·intro W_ hW
           by_cases hc0 : (x1.2.1 == 2) = true
           ·have hl0 : (x1.2.1 == 2) = true := hc0
            have S1 := S
            intro v_628 hF_627; obtain rfl : .bool (x1.2.1 == 2) = v_628 := Eq.symm hF_627
            replace S1 := S1.put (by decide : 123 < 149) (.bool (x1.2.1 == 2))
            refine fill_nil S1 ?_; clear S1; intro a_ S1
            replace R0 := R0.step hW
            rw [show (x1.2.1 == 2) = true from hl0] at S1
            exact RPost.one (v := v0) S1 tys tys_ok rfl (by kernel_rfl) S.defers ⟨fun _ => R0, fun k_ => absurd hc0 k_⟩ (Below.refl _ _)
           ·have hl0 : (x1.2.1 == 2) = false := Bool.eq_false_iff.2 hc0
            have S1 := S
            intro v_630 hF_629; obtain rfl : .bool (x1.2.1 == 2) = v_630 := Eq.symm hF_629
            replace S1 := S1.put (by decide : 123 < 149) (.bool (x1.2.1 == 2))
            refine fill_nil S1 ?_; clear S1; intro a_ S1
            rw [show (x1.2.1 == 2) = false from hl0] at S1
            exact RPost.one (v := undef) S1 tys tys_ok rfl (by kernel_rfl) S.defers ⟨fun k_ => absurd k_ hc0, fun _ => rfl⟩ (Below.refl _ _)
          refine RunAll.cons (cndF (x1.2.1 == 2) true (isI .i64 c_597)) [(eqv (.bool (x1.2.1 == 2)), 123)] rfl rfl ?_ ?_
          ·intro W_ hW
           by_cases hc0 : (x1.2.1 == 2) = true
           ·have hl0 : (x1.2.1 == 2) = true := hc0
            have S1 := S
            intro v_632 hF_631; obtain rfl : .bool (x1.2.1 == 2) = v_632 := Eq.symm hF_631
            replace S1 := S1.put (by decide : 123 < 149) (.bool (x1.2.1 == 2))
            refine fill_nil S1 ?_; clear S1; intro a_ S1
            rw [show (x1.2.1 == 2) = true from hl0] at S1
            exact RPost.one (v := .int .i64 c_597) S1 tys tys_ok rfl (by kernel_rfl) S.defers ⟨fun _ => ⟨rfl, G_598⟩, fun k_ => absurd hc0 k_⟩ (Below.refl _ _)
           ·have hl0 : (x1.2.1 == 2) = false := Bool.eq_false_iff.2 hc0
            have S1 := S
            intro v_634 hF_633; obtain rfl : .bool (x1.2.1 == 2) = v_634 := Eq.symm hF_633
            replace S1 := S1.put (by decide : 123 < 149) (.bool (x1.2.1 == 2))
            refine fill_nil S1 ?_; clear S1; intro a_ S1
            rw [show (x1.2.1 == 2) = false from hl0] at S1
            exact RPost.one (v := undef) S1 tys tys_ok rfl (by kernel_rfl) S.defers ⟨fun k_ => absurd k_ hc0, fun _ => rfl⟩ (Below.refl _ _)
          refine RunAll.cons (cndF (x1.2.1 == 2) true (isEl gt0 (Kx K w.heap.size [some b_1]) y_611)) [(cndF (x1.2.1 == 2) true (isRep (.sl gt0) (Kx K w.heap.size [some b_1]) x0), 124), (cndF (x1.2.1 == 2) true (isI .i64 c_597), 125), (eqv (.bool (x1.2.1 == 2)), 123)] rfl rfl ?_ ?_
          ·intro W_ hW
           by_cases hc0 : (x1.2.1 == 2) = true
           ·have hl0 : (x1.2.1 == 2) = true := hc0
            have S1 := S
            intro v_635 hF_636
            replace hF_636 := cndF.pos hF_636 hc0
            revert hF_636
            revert v_635
            intro v_638 hF_637; replace hF_637 : RepV _ _ _ _ _ := hF_637
            replace S1 := S1.put (by decide : 124 < 149) (v_638)
            intro v_639 hF_640
            replace hF_640 := cndF.pos hF_640 hc0
            revert hF_640
            revert v_639
            rintro _ ⟨rfl, hF_641⟩
            replace S1 := S1.put (by decide : 125 < 149) (.int .i64 c_597)
            intro v_644 hF_643; obtain rfl : .bool (x1.2.1 == 2) = v_644 := Eq.symm hF_643
            replace S1 := S1.put (by decide : 123 < 149) (.bool (x1.2.1 == 2))
            refine fill_nil S1 ?_; clear S1; intro a_ S1
            replace W := W.step hW
            rw [show (x1.2.1 == 2) = true from hl0] at S1
            have S0 := S.defers; replace S := S1; clear S1
            obtain ⟨ey_611, _⟩ := (HG_610).1 hc0
            refine w_go S rfl (op_indexAddr S rfl ty23 rfl rfl rfl hF_637 rfl ey_611 ?_)
            clear S; intro a p_645 R_646 H_647 S
            refine wpList_nil ?_
            exact RPost.mk_ S rfl S0 ⟨fun _ => ⟨_, rfl, R_646, H_647⟩, fun k_ => absurd hc0 k_⟩ (Below.refl _ _)
           ·have hl0 : (x1.2.1 == 2) = false := Bool.eq_false_iff.2 hc0
            have S1 := S
            intro v_648 hF_649
            obtain rfl := cndF.neg hF_649 hc0
            replace S1 := S1.put (by decide : 124 < 149) (undef)
            intro v_650 hF_651
            obtain rfl := cndF.neg hF_651 hc0
            replace S1 := S1.put (by decide : 125 < 149) (undef)
            intro v_653 hF_652; obtain rfl : .bool (x1.2.1 == 2) = v_653 := Eq.symm hF_652
            replace S1 := S1.put (by decide : 123 < 149) (.bool (x1.2.1 == 2))
            refine fill_nil S1 ?_; clear S1; intro a_ S1
            rw [show (x1.2.1 == 2) = false from hl0] at S1
            exact RPost.one (v := undef) S1 tys tys_ok rfl (by kernel_rfl) S.defers ⟨fun k_ => absurd k_ hc0, fun _ => rfl⟩ (Below.refl _ _)
          refine RunAll.cons (cndF (x1.2.1 == 2) true (isEl (.int .u8) (Kx K w.heap.size [some b_1]) y_611.2.2)) [(cndF (x1.2.1 == 2) true (isEl gt0 (Kx K w.heap.size [some b_1]) y_611), 126), (eqv (.bool (x1.2.1 == 2)), 123)] rfl rfl ?_ ?_
          ·intro W_ hW
           by_cases hc0 : (x1.2.1 == 2) = true
           ·have hl0 : (x1.2.1 == 2) = true := hc0
            have S1 := S
            intro v_654 hF_655
            replace hF_655 := cndF.pos hF_655 hc0
            revert hF_655
            revert v_654
            rintro _ ⟨p_658, rfl, R_659, H_660⟩
            replace S1 := S1.put (by decide : 126 < 149) (.pointer (some p_658))
            intro v_662 hF_661; obtain rfl : .bool (x1.2.1 == 2) = v_662 := Eq.symm hF_661
            replace S1 := S1.put (by decide : 123 < 149) (.bool (x1.2.1 == 2))
            refine fill_nil S1 ?_; clear S1; intro a_ S1
            rw [show (x1.2.1 == 2) = true from hl0] at S1
            exact RPost.one (v := .pointer (some (p_658.add (coff gf0 2)))) S1 tys tys_ok rfl (by kernel_rfl) S.defers ⟨fun _ => ⟨_, rfl, (RepAt.add 2 (RepAt.st (t := gf0) R_659)), (by simpa [Addr.add] using H_660)⟩, fun k_ => absurd hc0 k_⟩ (Below.refl _ _)
           ·have hl0 : (x1.2.1 == 2) = false := Bool.eq_false_iff.2 hc0
            have S1 := S
            intro v_663 hF_664
            obtain rfl := cndF.neg hF_664 hc0
            replace S1 := S1.put (by decide : 126 < 149) (undef)
            intro v_666 hF_665; obtain rfl : .bool (x1.2.1 == 2) = v_666 := Eq.symm hF_665
            replace S1 := S1.put (by decide : 123 < 149) (.bool (x1.2.1 == 2))
            refine fill_nil S1 ?_; clear S1; intro a_ S1
            rw [show (x1.2.1 == 2) = false from hl0] at S1
            exact RPost.one (v := undef) S1 tys tys_ok rfl (by kernel_rfl) S.defers ⟨fun k_ => absurd k_ hc0, fun _ => rfl⟩ (Below.refl _ _)
          refine RunAll.cons (cndF (x1.2.1 == 2) true (isI .u8 y_611.2.2)) [(cndF (x1.2.1 == 2) true (isEl (.int .u8) (Kx K w.heap.size [some b_1]) y_611.2.2), 127), (eqv (.bool (x1.2.1 == 2)), 123)] rfl rfl ?_ ?_
          ·intro W_ hW
           by_cases hc0 : (x1.2.1 == 2) = true
           ·have hl0 : (x1.2.1 == 2) = true := hc0
            have S1 := S
            intro v_667 hF_668
            replace hF_668 := cndF.pos hF_668 hc0
            revert hF_668
            revert v_667
            rintro _ ⟨p_671, rfl, R_672, H_673⟩
            replace S1 := S1.put (by decide : 127 < 149) (.pointer (some p_671))
            intro v_675 hF_674; obtain rfl : .bool (x1.2.1 == 2) = v_675 := Eq.symm hF_674
            replace S1 := S1.put (by decide : 123 < 149) (.bool (x1.2.1 == 2))
            refine fill_nil S1 ?_; clear S1; intro a_ S1
            rw [show (x1.2.1 == 2) = true from hl0] at S1
            have S0 := S.defers; replace S := S1; clear S1
            obtain ⟨ey_611, _⟩ := (HG_610).1 hc0
            refine w_go S rfl (op_load (t := (.int .u8)) (x := y_611.2.2) S rfl ty5 rfl rfl rfl R_672 ?_)
            clear S; intro a v_676 R_677 S
            obtain ⟨rfl, GR_677⟩ := RepV.int R_677
            refine wpList_nil ?_
            exact RPost.mk_ S rfl S0 ⟨fun _ => ⟨rfl, GR_677⟩, fun k_ => absurd hc0 k_⟩ (Below.refl _ _)
           ·have hl0 : (x1.2.1 == 2) = false := Bool.eq_false_iff.2 hc0
            have S1 := S
            intro v_678 hF_679
            obtain rfl := cndF.neg hF_679 hc0
            replace S1 := S1.put (by decide : 127 < 149) (undef)
            intro v_681 hF_680; obtain rfl : .bool (x1.2.1 == 2) = v_681 := Eq.symm hF_680
            replace S1 := S1.put (by decide : 123 < 149) (.bool (x1.2.1 == 2))
            refine fill_nil S1 ?_; clear S1; intro a_ S1
            rw [show (x1.2.1 == 2) = false from hl0] at S1
            exact RPost.one (v := undef) S1 tys tys_ok rfl (by kernel_rfl) S.defers ⟨fun k_ => absurd k_ hc0, fun _ => rfl⟩ (Below.refl _ _)
          refine RunAll.cons (cndF (x1.2.1 == 2) true (eqv (.pointer (some ((⟨b_1, 0, .none⟩ : Addr).add (coff gf2 3)))))) [(eqv (.bool (x1.2.1 == 2)), 123)] rfl rfl ?_ ?_
          ·intro W_ hW
           by_cases hc0 : (x1.2.1 == 2) = true
           ·have hl0 : (x1.2.1 == 2) = true := hc0
            have S1 := S
            intro v_683 hF_682; obtain rfl : .bool (x1.2.1 == 2) = v_683 := Eq.symm hF_682
            replace S1 := S1.put (by decide : 123 < 149) (.bool (x1.2.1 == 2))
            refine fill_nil S1 ?_; clear S1; intro a_ S1
            replace B_2 := B_2.step hW
            rw [show (x1.2.1 == 2) = true from hl0] at S1
            exact RPost.one (v := .pointer (some ((⟨b_1, 0, .none⟩ : Addr).add (coff gf2 3)))) S1 tys tys_ok rfl (by kernel_rfl) S.defers ⟨fun _ => rfl, fun k_ => absurd hc0 k_⟩ (Below.refl _ _)
           ·have hl0 : (x1.2.1 == 2) = false := Bool.eq_false_iff.2 hc0
            have S1 := S
            intro v_685 hF_684; obtain rfl : .bool (x1.2.1 == 2) = v_685 := Eq.symm hF_684
            replace S1 := S1.put (by decide : 123 < 149) (.bool (x1.2.1 == 2))
            refine fill_nil S1 ?_; clear S1; intro a_ S1
            rw [show (x1.2.1 == 2) = false from hl0] at S1
            exact RPost.one (v := undef) S1 tys tys_ok rfl (by kernel_rfl) S.defers ⟨fun k_ => absurd k_ hc0, fun _ => rfl⟩ (Below.refl _ _)
          refine RunAll.cons (cndF (x1.2.1 == 2) true (isI .u8 x1.2.2.2)) [(cndF (x1.2.1 == 2) true (eqv (.pointer (some ((⟨b_1, 0, .none⟩ : Addr).add (coff gf2 3))))), 129), (eqv (.bool (x1.2.1 == 2)), 123)] rfl rfl ?_ ?_
          ·intro W_ hW
           by_cases hc0 : (x1.2.1 == 2) = true
           ·have hl0 : (x1.2.1 == 2) = true := hc0
            have S1 := S
            intro v_686 hF_687
            replace hF_687 := cndF.pos hF_687 hc0
            revert hF_687
            revert v_686
            intro v_689 hF_688; obtain rfl : .pointer (some ((⟨b_1, 0, .none⟩ : Addr).add (coff gf2 3))) = v_689 := Eq.symm hF_688
            replace S1 := S1.put (by decide : 129 < 149) (.pointer (some ((⟨b_1, 0, .none⟩ : Addr).add (coff gf2 3))))
            intro v_691 hF_690; obtain rfl : .bool (x1.2.1 == 2) = v_691 := Eq.symm hF_690
            replace S1 := S1.put (by decide : 123 < 149) (.bool (x1.2.1 == 2))
            refine fill_nil S1 ?_; clear S1; intro a_ S1
            replace B_2 := B_2.step hW
            rw [show (x1.2.1 == 2) = true from hl0] at S1
            have S0 := S.defers; replace S := S1; clear S1
            obtain ⟨ey_611, _⟩ := (HG_610).1 hc0
            refine w_go S rfl (op_load (t := (.int .u8)) (x := x1.2.2.2) S rfl ty5 rfl rfl rfl (RepAt.add 3 (RepAt.st (t := gf2) B_2.at_)) ?_)
            clear S; intro a v_692 R_693 S
            obtain ⟨rfl, GR_693⟩ := RepV.int R_693
            refine wpList_nil ?_
            exact RPost.mk_ S rfl S0 ⟨fun _ => ⟨rfl, GR_693⟩, fun k_ => absurd hc0 k_⟩ (Below.refl _ _)
           ·have hl0 : (x1.2.1 == 2) = false := Bool.eq_false_iff.2 hc0
            have S1 := S
            intro v_694 hF_695
            obtain rfl := cndF.neg hF_695 hc0
            replace S1 := S1.put (by decide : 129 < 149) (undef)
            intro v_697 hF_696; obtain rfl : .bool (x1.2.1 == 2) = v_697 := Eq.symm hF_696
            replace S1 := S1.put (by decide : 123 < 149) (.bool (x1.2.1 == 2))
            refine fill_nil S1 ?_; clear S1; intro a_ S1
            rw [show (x1.2.1 == 2) = false from hl0] at S1
            exact RPost.one (v := undef) S1 tys tys_ok rfl (by kernel_rfl) S.defers ⟨fun k_ => absurd k_ hc0, fun _ => rfl⟩ (Below.refl _ _)
          refine RunAll.cons (cndF (x1.2.1 == 2) true (eqv (.bool (y_611.2.2 == x1.2.2.2)))) [(cndF (x1.2.1 == 2) true (isI .u8 y_611.2.2), 128), (cndF (x1.2.1 == 2) true (isI .u8 x1.2.2.2), 130), (eqv (.bool (x1.2.1 == 2)), 123)] rfl rfl ?_ ?_
          ·intro W_ hW
           by_cases hc0 : (x1.2.1 == 2) = true
           ·have hl0 : (x1.2.1 == 2) = true := hc0
            have S1 := S
            intro v_698 hF_699
            replace hF_699 := cndF.pos hF_699 hc0
            revert hF_699
            revert v_698
            rintro _ ⟨rfl, hF_700⟩
            replace S1 := S1.put (by decide : 128 < 149) (.int .u8 y_611.2.2)
            intro v_702 hF_703
            replace hF_703 := cndF.pos hF_703 hc0
            revert hF_703
            revert v_702
            rintro _ ⟨rfl, hF_704⟩
            replace S1 := S1.put (by decide : 130 < 149) (.int .u8 x1.2.2.2)
            intro v_707 hF_706; obtain rfl : .bool (x1.2.1 == 2) = v_707 := Eq.symm hF_706
            replace S1 := S1.put (by decide : 123 < 149) (.bool (x1.2.1 == 2))
            refine fill_nil S1 ?_; clear S1; intro a_ S1
            rw [show (x1.2.1 == 2) = true from hl0] at S1
            exact RPost.one (v := .bool (y_611.2.2 == x1.2.2.2)) S1 tys tys_ok rfl (by kernel_rfl) S.defers ⟨fun _ => rfl, fun k_ => absurd hc0 k_⟩ (Below.refl _ _)
           ·have hl0 : (x1.2.1 == 2) = false := Bool.eq_false_iff.2 hc0
            have S1 := S
            intro v_708 hF_709
            obtain rfl := cndF.neg hF_709 hc0
            replace S1 := S1.put (by decide : 128 < 149) (undef)
            intro v_710 hF_711
            obtain rfl := cndF.neg hF_711 hc0
            replace S1 := S1.put (by decide : 130 < 149) (undef)
            intro v_713 hF_712; obtain rfl : .bool (x1.2.1 == 2) = v_713 := Eq.symm hF_712
            replace S1 := S1.put (by decide : 123 < 149) (.bool (x1.2.1 == 2))
            refine fill_nil S1 ?_; clear S1; intro a_ S1
            rw [show (x1.2.1 == 2) = false from hl0] at S1
            exact RPost.one (v := undef) S1 tys tys_ok rfl (by kernel_rfl) S.defers ⟨fun k_ => absurd k_ hc0, fun _ => rfl⟩ (Below.refl _ _)
          refine RunAll.cons (eqv (.bool q_609)) [(eqv (.bool (x1.2.1 == 2)), 123), (cndF (x1.2.1 == 2) true (eqv (.bool (y_611.2.2 == x1.2.2.2))), 131)] rfl rfl ?_ ?_
          ·intro W_ hW
           by_cases hc0 : (x1.2.1 == 2) = true
           ·have hl0 : (x1.2.1 == 2) = true := hc0
            have S1 := S
            intro v_715 hF_714; obtain rfl : .bool (x1.2.1 == 2) = v_715 := Eq.symm hF_714
            replace S1 := S1.put (by decide : 123 < 149) (.bool (x1.2.1 == 2))
            intro v_716 hF_717
            replace hF_717 := cndF.pos hF_717 hc0
            revert hF_717
            revert v_716
            intro v_719 hF_718; obtain rfl : .bool (y_611.2.2 == x1.2.2.2) = v_719 := Eq.symm hF_718
            replace S1 := S1.put (by decide : 131 < 149) (.bool (y_611.2.2 == x1.2.2.2))
            refine fill_nil S1 ?_; clear S1; intro a_ S1
            rw [show (x1.2.1 == 2) = true from hl0] at S1
            exact RPost.one (v := .bool (y_611.2.2 == x1.2.2.2)) S1 tys tys_ok rfl (by kernel_rfl) S.defers (congrArg Value.bool ((HG_610).1 hc0).2) (Below.refl _ _)
           ·have hl0 : (x1.2.1 == 2) = false := Bool.eq_false_iff.2 hc0
            have S1 := S
            intro v_721 hF_720; obtain rfl : .bool (x1.2.1 == 2) = v_721 := Eq.symm hF_720
            replace S1 := S1.put (by decide : 123 < 149) (.bool (x1.2.1 == 2))
            intro v_722 hF_723
            obtain rfl := cndF.neg hF_723 hc0
            replace S1 := S1.put (by decide : 131 < 149) (undef)
            refine fill_nil S1 ?_; clear S1; intro a_ S1
            rw [show (x1.2.1 == 2) = false from hl0] at S1
            exact RPost.one (v := .bool false) S1 tys tys_ok rfl (by kernel_rfl) S.defers (congrArg Value.bool ((HG_610).2 hc0)) (Below.refl _ _)
          exact trivial
         intro w_724 hb_725
         refine EndE.some_ rfl ?_
         intro v_727 hF_726; obtain rfl : .pointer (some ((⟨b_1, 0, .none⟩ : Addr).add (coff gf2 1))) = v_727 := Eq.symm hF_726
         replace S := S.put (by decide : 120 < 149) (.pointer (some ((⟨b_1, 0, .none⟩ : Addr).add (coff gf2 1))))
         refine EndE.some_ rfl ?_
         rintro _ ⟨rfl, hF_728⟩
         replace S := S.put (by decide : 121 < 149) (.int .u8 x1.2.1)
         refine EndE.some_ rfl ?_
         intro v_731 hF_730; obtain rfl : .bool (x1.2.1 == 2) = v_731 := Eq.symm hF_730
         replace S := S.put (by decide : 122 < 149) (.bool (x1.2.1 == 2))
         refine EndE.some_ rfl ?_
         intro v_733 hF_732; obtain rfl : .bool (x1.2.1 == 2) = v_733 := Eq.symm hF_732
         replace S := S.put (by decide : 123 < 149) (.bool (x1.2.1 == 2))
         refine EndE.some_ rfl ?_
         intro v_734 _
         replace S := S.put (by decide : 124 < 149) (v_734)
         refine EndE.some_ rfl ?_
         intro v_735 _
         replace S := S.put (by decide : 125 < 149) (v_735)
         refine EndE.some_ rfl ?_
         intro v_736 _
         replace S := S.put (by decide : 126 < 149) (v_736)
         refine EndE.some_ rfl ?_
         intro v_737 _
         replace S := S.put (by decide : 127 < 149) (v_737)
         refine EndE.some_ rfl ?_
         intro v_738 _
         replace S := S.put (by decide : 128 < 149) (v_738)
         refine EndE.some_ rfl ?_
         intro v_739 _
         replace S := S.put (by decide : 129 < 149) (v_739)
         refine EndE.some_ rfl ?_
         intro v_740 _
         replace S := S.put (by decide : 130 < 149) (v_740)
         refine EndE.some_ rfl ?_
         intro v_741 _
         replace S := S.put (by decide : 131 < 149) (v_741)
         refine EndE.some_ rfl ?_
         intro v_743 hF_742; obtain rfl : .bool q_609 = v_743 := Eq.symm hF_742
         replace S := S.put (by decide : 132 < 149) (.bool q_609)
         refine endE_nil S ?_; clear S; intro a S
         replace R0 := R0.step hb_725
         replace B_2 := B_2.step hb_725
         replace W := W.step hb_725
         refine then_n ?_
         replace S := S.sub (l' := [(132, .bool q_609), (10, .int .i64 c_597), (6, .int .i64 t_7), (3, pB b_1), (0, v0)]) (by exact ⟨rfl, rfl, rfl, rfl, rfl, trivial⟩)
         refine wp_cond_split (S.eval (show ev _ _ = some (.bool q_609) from rfl)) ?_ ?_
         ·intro hc
          rw [if_pos hc] at hl_604
          refine wp_seq ?_
          refine wp_region_lit ?_
          refine wl_pureK (l' := [(5, .int .i64 8), (4, .slice .none 0 0)]) S tys tys_ok 2 [5, 4] (by kernel_rfl) ?_
          clear S; intro a S
          refine wpList_nil ?_
          refine then_n ?_
          refine wp_ret ?_
          refine blk_r ?_
          refine then_r ?_
          refine then_r ?_
          refine blk_r ?_
          refine then_r ?_
          refine then_r ?_
          replace B_2 := B_2.more
          replace W := W.more
          have O_744 : Ow gt0 33 w_724 w.heap.size (Kx K w.heap.size [.none, some b_1]) (.slice .none 0 0) ([] : List ((Sl (Int)) × Int × Int)) (some 0) := Ow.nil
          obtain rfl := Option.some.inj hl_604
          obtain rfl := lr_inr h
          exact b_ret2 S rfl rfl rfl ⟨_, _, rfl, (O_744.lessO 0 rfl), (RepV.mkInt (by decide)), W.below⟩
         ·intro hc
          rw [if_neg (Bool.eq_false_iff.1 hc)] at hl_604
          refine wp_skip ?_
          refine blk_n ?_
          refine then_n ?_
          replace S := S.sub (l' := [(10, .int .i64 c_597), (6, .int .i64 t_7), (3, pB b_1), (0, v0)]) (by exact ⟨rfl, rfl, rfl, rfl, trivial⟩)
          refine wp_region_lit ?_
          refine wl_pure (l' := [(118, .int .i64 c_597), (10, .int .i64 c_597), (6, .int .i64 t_7), (3, pB b_1), (0, v0)]) S tys tys_ok 1 (by kernel_rfl) ?_
          clear S; intro a S
          obtain ⟨x_745, ex_745, hl_604⟩ := bindS hl_604
          refine w_go S rfl (op_arith S .i64 (c_597 + 1) rfl (.inl rfl) rfl rfl rfl rfl ex_745 ?_)
          clear S; intro a S
          refine wl_pure (l' := [(10, .int .i64 x_745), (119, .int .i64 x_745), (118, .int .i64 c_597), (10, .int .i64 c_597), (6, .int .i64 t_7), (3, pB b_1), (0, v0)]) S tys tys_ok 1 (by kernel_rfl) ?_
          clear S; intro a S
          refine wpList_nil ?_
          refine then_n ?_
          exact ⟨x_745, ⟨S.sub (by exact ⟨rfl, rfl, rfl, rfl, trivial⟩), W, (ckI_some ex_745).2.1, R0, B_2, hl_604⟩⟩
        ·intro hc
         rw [if_neg (Bool.eq_false_iff.1 hc)] at hl_604
         refine wp_exit ?_
         refine then_x ?_
         refine then_x ?_
         refine blk_hit ?_
         refine then_n ?_
         obtain rfl := Option.some.inj hl_604
         exact ⟨_, rfl, ⟨S.sub (by exact ⟨rfl, rfl, rfl, trivial⟩), W, R0, B_2⟩⟩
     clear S W; rintro a w_746 ⟨s_602, rfl, S, W, R0, B_2⟩
     replace h := lr_inl h; try dsimp only at h
     refine then_n ?_
     refine wp_seq ?_
     refine wp_region_lit ?_
     refine w_go S rfl (op_row0 (K := K) (e := gt0) (E := 33) S W rfl ty23 un23 rfl rfl ?_)
     clear S; intro a w_748 b_747 hb_749 O_750 S
     replace R0 := R0.box hb_749
     replace B_2 := B_2.box hb_749
     replace W := W.box hb_749
     replace O_750 : Ow gt0 33 w_748 w.heap.size (Kx K w.heap.size [some b_747, some b_1]) (.slice (some ⟨b_747, 0, .none⟩) 0 0) ([] : List ((Sl (Int)) × Int × Int)) (some 0) := O_750
     refine wl_pure (l' := [(134, v0), (133, (.slice (some ⟨b_747, 0, .none⟩) 0 0)), (0, v0), (3, pB b_1), (6, .int .i64 t_7)]) S tys tys_ok 1 (by kernel_rfl) ?_
     clear S; intro a S
     obtain ⟨l_751, el_751, h⟩ := bindS h
     refine w_go S rfl (op_append S W (E := 33) 0 rfl ty23 un23 by23 rfl rfl rfl rfl O_750 rfl R0 el_751 ?_)
     clear S; intro a w_753 v_752 A_754 O_755 S
     replace R0 : RepV (.sl gt0) w_753 (Kx K w.heap.size [v_752.ownBlock, some b_1]) v0 x0 := R0.apd A_754 (i := 0) rfl
     replace B_2 : Bx gt2 31 w_753 (Kx K w.heap.size [v_752.ownBlock, some b_1]) b_1 x1 := B_2.apd W A_754 (i := 0) rfl (j := 1) rfl (by decide)
     replace W : Wd w w_753 [v_752.ownBlock, some b_1] := W.apd A_754 (i := 0) rfl
     replace O_755 : Ow gt0 33 w_753 w.heap.size (Kx K w.heap.size [v_752.ownBlock, some b_1]) v_752 l_751 (capA (some 0) l_751.length) := O_755
     refine wl_pureK (l' := [(11, v_752), (3, pB b_1), (6, .int .i64 t_7)]) S tys tys_ok 1 [11, 3, 6] (by kernel_rfl) ?_
     clear S; intro a S
     refine wpList_nil ?_
     refine then_n ?_
     refine wp_seq ?_
     refine wp_region_lit ?_
     refine wl_pure (l' := [(138, .pointer (some ((⟨b_1, 0, .none⟩ : Addr).add (coff gf2 1)))), (137, .int .i64 t_7), (136, v_752), (11, v_752), (3, pB b_1), (6, .int .i64 t_7)]) S tys tys_ok 3 (by kernel_rfl) ?_
     clear S; intro a S
     refine w_go S rfl (op_load (t := (.int .u8)) (x := x1.2.1) S rfl ty29 rfl rfl rfl (RepAt.add 1 (RepAt.st (t := gf2) B_2.at_)) ?_)
     clear S; intro a v_756 R_757 S
     obtain ⟨rfl, GR_757⟩ := RepV.int R_757
     obtain ⟨y_758, ey_758, h⟩ := bindS h
     refine w_go S rfl (op_indexAddr_own S rfl ty23 rfl rfl rfl O_755 rfl ey_758 ?_)
     clear S; intro a g_759 H_761 R_760 S
     refine wl_pureK (l' := [(141, .pointer (some ((⟨g_759, t_7.toNat * GT.sz gt0, .none⟩ : Addr).add (coff gf0 1)))), (139, .int .u8 x1.2.1), (11, v_752), (3, pB b_1), (6, .int .i64 t_7)]) S tys tys_ok 1 [141, 139, 11, 3, 6] (by kernel_rfl) ?_
     clear S; intro a S
     refine w_go S rfl (op_store_own (t' := (.int .u8)) S rfl rfl ty29 rfl (addr_add _ _ _) rfl O_755 H_761 0 rfl (idx_some ey_758).2.1 (Ln.st (Ln.comp 1)) ((RepV.mkInt GR_757) : RepV (.int .u8) w_753 (Kx K w.heap.size [v_752.ownBlock, some b_1]) _ x1.2.1) ?_)
     intro w_762 hw_763 hm_765 O_764
     replace B_2 := B_2.wrote hw_763 hm_765 (by have h_ := W.one (p := 0) (q := 1) (by decide) rfl rfl; exact fun e_ => h_ (by rw [e_]; exact H_761))
     replace W := W.wrote hw_763 hm_765
     replace O_764 : Ow gt0 33 w_762 w.heap.size (Kx K w.heap.size [v_752.ownBlock, some b_1]) v_752 (l_751.set t_7.toNat (y_758.1, x1.2.1, y_758.2.2)) (capA (some 0) l_751.length) := O_764
     refine wpList_nil ?_
     refine then_n ?_
     replace S := S.sub (l' := [(11, v_752), (3, pB b_1), (6, .int .i64 t_7)]) (by exact ⟨rfl, rfl, rfl, trivial⟩)
     refine wp_seq ?_
     refine wp_region_lit ?_
     refine wl_pure (l' := [(144, .pointer (some ((⟨b_1, 0, .none⟩ : Addr).add (coff gf2 3)))), (143, .int .i64 t_7), (142, v_752), (11, v_752), (3, pB b_1), (6, .int .i64 t_7)]) S tys tys_ok 3 (by kernel_rfl) ?_
     clear S; intro a S
     refine w_go S rfl (op_load (t := (.int .u8)) (x := x1.2.2.2) S rfl ty5 rfl rfl rfl (RepAt.add 3 (RepAt.st (t := gf2) B_2.at_)) ?_)
     clear S; intro a v_766 R_767 S
     obtain ⟨rfl, GR_767⟩ := RepV.int R_767
     obtain ⟨y_768, ey_768, h⟩ := bindS h
     refine w_go S rfl (op_indexAddr_own S rfl ty23 rfl rfl rfl O_764 rfl ey_768 ?_)
     clear S; intro a g_769 H_771 R_770 S
     refine wl_pureK (l' := [(147, .pointer (some ((⟨g_769, t_7.toNat * GT.sz gt0, .none⟩ : Addr).add (coff gf0 2)))), (145, .int .u8 x1.2.2.2), (11, v_752)]) S tys tys_ok 1 [147, 145, 11] (by kernel_rfl) ?_
     clear S; intro a S
     refine w_go S rfl (op_store_own (t' := (.int .u8)) S rfl rfl ty5 rfl (addr_add _ _ _) rfl O_764 H_771 0 rfl (idx_some ey_768).2.1 (Ln.st (Ln.comp 2)) ((RepV.mkInt GR_767) : RepV (.int .u8) w_762 (Kx K w.heap.size [v_752.ownBlock, some b_1]) _ x1.2.2.2) ?_)
     intro w_772 hw_773 hm_775 O_774
     replace B_2 := B_2.wrote hw_773 hm_775 (by have h_ := W.one (p := 0) (q := 1) (by decide) rfl rfl; exact fun e_ => h_ (by rw [e_]; exact H_771))
     replace W := W.wrote hw_773 hm_775
     replace O_774 : Ow gt0 33 w_772 w.heap.size (Kx K w.heap.size [v_752.ownBlock, some b_1]) v_752 ((l_751.set t_7.toNat (y_758.1, x1.2.1, y_758.2.2)).set t_7.toNat (y_768.1, y_768.2.1, x1.2.2.2)) (capA (some 0) l_751.length) := O_774
     refine wpList_nil ?_
     refine then_n ?_
     replace S := S.sub (l' := [(11, v_752)]) (by exact ⟨rfl, trivial⟩)
     refine wp_seq ?_
     refine wp_region_lit ?_
     refine wl_pure (l' := [(5, .int .i64 0), (4, v_752), (148, v_752), (11, v_752)]) S tys tys_ok 3 (by kernel_rfl) ?_
     clear S; intro a S
     refine wpList_nil ?_
     refine then_n ?_
     replace S := S.sub (l' := [(5, .int .i64 0), (4, v_752)]) (by exact ⟨rfl, rfl, trivial⟩)
     refine wp_ret ?_
     obtain rfl := Option.some.inj h
     exact b_ret2 S rfl rfl rfl ⟨_, _, rfl, (O_774.lessO 0 rfl), (RepV.mkInt (by decide)), W.below⟩
theorem cb14 : callB Try.prog 14 = true := by kernel_rfl
def p12_l1 (n : Nat) (x0 : Sl (Int × Int × Int × Int)) : Nat → (Int) → (Sl ((Sl (Int)) × Int × Int)) → Option ((Sl ((Sl (Int)) × Int × Int)))
 | 0, _, _ => .none
 | m + 1, c_11, c_13 => (if (decide (c_11 < (lenI x0))) = true then some (decide (c_11 < 40)) else some false).bind fun q_28 => if q_28 then ((idx x0.xs c_11).bind fun y_29 => (p13 n y_29 0).bind fun t_35 => (p14 n c_13 t_35).bind fun t_40 => (if (t_40.2 == 0) then (some (⟨t_40.1.xs, t_40.1.cap⟩ : Sl ((Sl (Int)) × Int × Int))) else some c_13).bind fun (j_47 : (Sl ((Sl (Int)) × Int × Int))) => (ckI .i64 (c_11 + 1)).bind fun x_52 => p12_l1 n x0 m x_52 j_47) else some c_13
def p12 (n : Nat) (x0 : Sl (Int × Int × Int × Int)) : Option ((Sl ((Sl (Int)) × Int × Int))) :=
 (p12_l1 n x0 n 0 (⟨[], some 0⟩)).bind fun (y_21 : (Sl ((Sl (Int)) × Int × Int))) =>
 some y_21
set_option maxHeartbeats 4000000 in
set_option maxRecDepth 100000 in
/-- (plugboard/plugboardlaw31.L).Of -/
theorem c12 (K : Nat → Prop) (n : Nat) (w : World) (x0 : Sl (Int × Int × Int × Int)) (v0 : Value) (R0 : RepV (.sl gt1) w K v0 x0) {r : (Sl ((Sl (Int)) × Int × Int))} (h : p12 n x0 = some r) :
  Calls Try.prog 12 #[v0] w (Ret1 (.sl gt0) w (Kx K w.heap.size []) r) := by
 refine enter (args := [v0]) Try.func12 rfl 31 rfl rfl fun a S => ?_
 have W := Wd.start w
 replace R0 := R0.arg
 unfold p12 at h
 replace S : St 31 a [(0, v0)] := S
 refine wp_seq ?_
 refine wp_region_lit ?_
 refine wl_pure (l' := [(2, .slice .none 0 0), (0, v0)]) S tys tys_ok 1 (by kernel_rfl) ?_
 clear S; intro a S
 refine wpList_nil ?_
 refine then_n ?_
 replace S := S.sub (l' := [(0, v0)]) (by exact ⟨rfl, trivial⟩)
 refine wp_seq ?_
 refine wp_region_lit ?_
 refine wl_pure (l' := [(3, .slice .none 0 0), (0, v0)]) S tys tys_ok 1 (by kernel_rfl) ?_
 clear S; intro a S
 refine wpList_nil ?_
 refine then_n ?_
 refine wp_seq ?_
 refine wp_seq ?_
 refine wp_region_lit ?_
 refine wl_pure (l' := [(4, .int .i64 0), (3, .slice .none 0 0), (0, v0)]) S tys tys_ok 1 (by kernel_rfl) ?_
 clear S; intro a S
 refine wpList_nil ?_
 refine then_n ?_
 obtain ⟨y_21, ey_21, h⟩ := bindS h
 refine wp_cut_ (fun a_ w_ => ∃ (v_22 : Value), St 31 a_ [(3, v_22)] ∧ Wd w w_ [] ∧ RepV (.sl gt0) w_ (Kx K w.heap.size []) v_22 y_21) ?_ ?_
 ·refine wp_block ?_
  refine wp_loop_n (fun m_ a_ w_ => ∃ (c_11 : Int) (c_13 : Sl ((Sl (Int)) × Int × Int)) , ∃ (v_14 : Value), St 31 a_ [(4, .int .i64 c_11), (3, v_14), (0, v0)] ∧ Wd w w_ [] ∧ InR .i64 c_11 ∧ RepV (.sl gt0) w_ (Kx K w.heap.size []) v_14 c_13 ∧ RepV (.sl gt1) w_ (Kx K w.heap.size []) v0 x0 ∧ p12_l1 n x0 m_ c_11 c_13 = some y_21) n ?_ ?_
  ·skip
   exact ⟨0, ⟨[], some 0⟩, ⟨.slice .none 0 0, S.sub (by exact ⟨rfl, rfl, rfl, trivial⟩), W, (show InR .i64 0 by decide), RepV.nil, R0, ey_21⟩⟩
  ·clear S W; rintro m_24 a w_26 ⟨c_11, c_13, v_14, S, W, G_12, R_15, R0, hl_25⟩
   cases m_24 with
   | zero => exact absurd hl_25 (by simp [p12_l1])
   | succ m_24 =>
    refine ⟨m_24, rfl, ?_⟩
    rw [p12_l1] at hl_25
    refine wp_seq ?_
    refine wp_seq ?_
    refine wp_region_lit ?_
    refine wl_pure (l' := [(8, v0), (7, .int .i64 c_11), (4, .int .i64 c_11), (3, v_14), (0, v0)]) S tys tys_ok 2 (by kernel_rfl) ?_
    clear S; intro a S
    refine w_go S rfl (op_len (K := _) S rfl ty38 rfl rfl rfl R0 ?_)
    clear S; intro a G_27 S
    refine wl_pureK (l' := [(11, .bool (decide (c_11 < (lenI x0)))), (4, .int .i64 c_11), (3, v_14), (0, v0)]) S tys tys_ok 2 [11, 4, 3, 0] (by kernel_rfl) ?_
    clear S; intro a S
    obtain ⟨q_28, eq_28, hl_25⟩ := bindS hl_25
    refine seg 3 (fun a_ w_ => w_26 = w_ ∧ St 31 a_ [(14, .bool q_28), (4, .int .i64 c_11), (3, v_14), (0, v0)]) ?_ ?_
    ·by_cases hc : (decide (c_11 < (lenI x0))) = true
     ·rw [if_pos hc] at eq_28; rw [hc] at S
      refine wl_pure (l' := [(14, .bool (decide (c_11 < 40))), (13, .bool (decide (c_11 < 40))), (12, .int .i64 c_11), (11, .bool true), (4, .int .i64 c_11), (3, v_14), (0, v0)]) S tys tys_ok 3 (by kernel_rfl) ?_
      clear S; intro a S
      obtain rfl := Option.some.inj eq_28
      exact ⟨rfl, S.sub (by exact ⟨rfl, rfl, rfl, rfl, trivial⟩)⟩
     ·rw [if_neg hc] at eq_28; rw [show (decide (c_11 < (lenI x0))) = false from Bool.eq_false_iff.2 hc] at S
      refine wl_pure (l' := [(14, .bool false), (13, undef), (12, undef), (11, .bool false), (4, .int .i64 c_11), (3, v_14), (0, v0)]) S tys tys_ok 3 (by kernel_rfl) ?_
      clear S; intro a S
      obtain rfl := Option.some.inj eq_28
      exact ⟨rfl, S.sub (by exact ⟨rfl, rfl, rfl, rfl, trivial⟩)⟩
    clear S eq_28; rintro a _ ⟨rfl, S⟩
    refine wpList_nil ?_
    refine then_n ?_
    refine wp_cond_split (S.eval (show ev _ _ = some (.bool q_28) from rfl)) ?_ ?_
    ·intro hc
     rw [if_pos hc] at hl_25
     refine wp_skip ?_
     refine then_n ?_
     replace S := S.sub (l' := [(4, .int .i64 c_11), (3, v_14), (0, v0)]) (by exact ⟨rfl, rfl, rfl, trivial⟩)
     refine wp_seq ?_
     refine wp_block ?_
     refine wp_seq ?_
     refine wp_region_lit ?_
     refine wl_pure (l' := [(20, .int .i64 c_11), (19, v0), (18, v_14), (4, .int .i64 c_11), (3, v_14), (0, v0)]) S tys tys_ok 3 (by kernel_rfl) ?_
     clear S; intro a S
     obtain ⟨y_29, ey_29, hl_25⟩ := bindS hl_25
     refine w_go S rfl (op_indexAddr S rfl ty38 rfl rfl rfl R0 rfl ey_29 ?_)
     clear S; intro a p_30 R_31 H_32 S
     refine w_go S rfl (op_load (t := gt1) (x := y_29) S rfl ty40 rfl rfl rfl R_31 ?_)
     clear S; intro a v_33 R_34 S
     obtain ⟨t_35, et_35, hl_25⟩ := bindS hl_25
     refine w_go S rfl (op_call (vs := [v_33, .int .i64 0]) S rfl cb13 rfl rfl rfl (c13 (Kx K w.heap.size []) n w_26 y_29 _ R_34 0 (by decide) et_35) ?_)
     rintro _ w_39 ⟨v_36, rfl, R_37, hb_38⟩; refine ⟨_, rfl, ?_⟩
     replace R_37 := RepV.back R_37 W
     clear S; intro a S
     replace R_15 := R_15.step hb_38
     replace R0 := R0.step hb_38
     replace R_34 := R_34.step hb_38
     replace W := W.step hb_38
     obtain ⟨t_40, et_40, hl_25⟩ := bindS hl_25
     refine w_go S rfl (op_call (vs := [v_14, v_36]) S rfl cb14 rfl rfl rfl (c14 (Kx K w.heap.size []) n w_39 c_13 _ R_15 t_35 _ R_37 et_40) ?_)
     rintro _ w_46 ⟨v_41, v_42, rfl, R_43, R_44, hb_45⟩; refine ⟨_, rfl, ?_⟩
     have NO_ := newO_of R_43 (Nat.le_refl _) hb_45
     replace R_43 := Ow.backO R_43 W
     replace R_44 := RepV.backO R_44 W
     clear S; intro a S
     replace R_15 := R_15.newO NO_
     replace R0 := R0.newO NO_
     replace R_34 := R_34.newO NO_
     replace R_37 := R_37.newO NO_
     replace W := W.newO NO_
     clear NO_
     obtain ⟨rfl, GR_44⟩ := RepV.int R_44
     refine wl_pureK (l' := [(6, .int .i64 t_40.2), (5, v_41), (4, .int .i64 c_11), (3, v_14), (0, v0)]) S tys tys_ok 5 [6, 5, 4, 3, 0] (by kernel_rfl) ?_
     clear S; intro a S
     refine wpList_nil ?_
     refine then_n ?_
     refine wp_seq ?_
     refine wp_region_lit ?_
     refine wl_pure (l' := [(28, .bool (t_40.2 == 0)), (27, .int .i64 t_40.2), (6, .int .i64 t_40.2), (5, v_41), (4, .int .i64 c_11), (3, v_14), (0, v0)]) S tys tys_ok 2 (by kernel_rfl) ?_
     clear S; intro a S
     refine wpList_nil ?_
     refine then_n ?_
     replace S := S.sub (l' := [(28, .bool (t_40.2 == 0)), (5, v_41), (4, .int .i64 c_11), (3, v_14), (0, v0)]) (by exact ⟨rfl, rfl, rfl, rfl, rfl, trivial⟩)
     obtain ⟨j_47, ej_47, hl_25⟩ := bindS hl_25
     refine wp_cut_ (fun a_ w_ => ∃ (v_48 : Value), St 31 a_ [(4, .int .i64 c_11), (3, v_48), (0, v0)] ∧ Wd w w_ [] ∧ RepV (.sl gt0) w_ (Kx K w.heap.size []) v_48 j_47 ∧ RepV (.sl gt1) w_ (Kx K w.heap.size []) v0 x0) ?_ ?_
     ·refine wp_cond_split (S.eval (show ev _ _ = some (.bool (t_40.2 == 0)) from rfl)) ?_ ?_
      ·intro hc
       rw [if_pos hc] at ej_47
       refine wp_region_lit ?_
       refine wl_pureK (l' := [(3, v_41), (4, .int .i64 c_11), (3, v_14), (0, v0)]) S tys tys_ok 2 [3, 4, 0] (by kernel_rfl) ?_
       clear S; intro a S
       refine wpList_nil ?_
       refine then_n ?_
       obtain rfl := Option.some.inj ej_47
       have R_50 : RepV (.sl gt0) w_46 (Kx K w.heap.size []) v_41 (⟨t_40.1.xs, t_40.1.cap⟩ : Sl ((Sl (Int)) × Int × Int)) := R_43.pubAt W 0 rfl
       replace R0 : RepV (.sl gt1) w_46 (Kx K w.heap.size []) v0 x0 := R0.lessAt 0
       replace W : Wd w w_46 [] := W.lessAt 0
       exact ⟨v_41, S.sub (by exact ⟨rfl, rfl, rfl, trivial⟩), W, R_50, R0⟩
      ·intro hc
       rw [if_neg (Bool.eq_false_iff.1 hc)] at ej_47
       refine wp_skip ?_
       refine then_n ?_
       obtain rfl := Option.some.inj ej_47
       exact ⟨v_14, S.sub (by exact ⟨rfl, rfl, rfl, trivial⟩), (W.drop 1), (R_15.drop 1), (R0.drop 1)⟩
     clear S W; rintro a w_51 ⟨v_48, S, W, R_49, R0⟩
     refine blk_n ?_
     refine then_n ?_
     refine wp_region_lit ?_
     refine wl_pure (l' := [(15, .int .i64 c_11), (4, .int .i64 c_11), (3, v_48), (0, v0)]) S tys tys_ok 1 (by kernel_rfl) ?_
     clear S; intro a S
     obtain ⟨x_52, ex_52, hl_25⟩ := bindS hl_25
     refine w_go S rfl (op_arith S .i64 (c_11 + 1) rfl (.inl rfl) rfl rfl rfl rfl ex_52 ?_)
     clear S; intro a S
     refine wl_pure (l' := [(4, .int .i64 x_52), (16, .int .i64 x_52), (15, .int .i64 c_11), (4, .int .i64 c_11), (3, v_48), (0, v0)]) S tys tys_ok 1 (by kernel_rfl) ?_
     clear S; intro a S
     refine wpList_nil ?_
     refine then_n ?_
     exact ⟨x_52, j_47, ⟨v_48, S.sub (by exact ⟨rfl, rfl, rfl, trivial⟩), W, (ckI_some ex_52).2.1, R_49, R0, hl_25⟩⟩
    ·intro hc
     rw [if_neg (Bool.eq_false_iff.1 hc)] at hl_25
     refine wp_exit ?_
     refine then_x ?_
     refine then_x ?_
     refine blk_hit ?_
     refine then_n ?_
     obtain rfl := Option.some.inj hl_25
     exact ⟨v_14, S.sub (by exact ⟨rfl, trivial⟩), W, R_15⟩
 clear S W; rintro a w_53 ⟨v_22, S, W, R_23⟩
 refine then_n ?_
 refine wp_seq ?_
 refine wp_region_lit ?_
 refine wl_pure (l' := [(2, v_22), (30, v_22), (3, v_22)]) S tys tys_ok 2 (by kernel_rfl) ?_
 clear S; intro a S
 refine wpList_nil ?_
 refine then_n ?_
 replace S := S.sub (l' := [(2, v_22)]) (by exact ⟨rfl, trivial⟩)
 refine wp_ret ?_
 obtain rfl := Option.some.inj h
 exact b_ret1 S rfl rfl ⟨_, rfl, R_23.out, W.below⟩
theorem cb12 : callB Try.prog 12 = true := by kernel_rfl

end Go.Proofs.Ytmcpcdmonglkjaa
