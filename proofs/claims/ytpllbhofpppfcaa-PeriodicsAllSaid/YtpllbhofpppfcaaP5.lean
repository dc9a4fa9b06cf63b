/- Functions of the program, as plain data. -/
import Derived.Test.YtpllbhofpppfcaaP4
set_option linter.unusedVariables false
set_option linter.unusedSimpArgs false
namespace Go.Proofs.Ytpllbhofpppfcaa
open Go.RowKit

def p7 (n : Nat) (x0 : Bool × Int × Int × (Sl (Sl (Int))) × Int) : Option ((Bool)) :=
  (p16 n x0).bind fun t_7 =>
  if (!t_7) then (some true) else (p17 n x0).bind fun t_14 => (p18 n x0).bind fun t_21 => if (t_21.2 != t_14) then (some false) else (p19 n t_21.1).bind fun t_36 => (p20 n t_21.1).bind fun t_51 => (if t_51.2 = false then some (decide ((lenI (⟨t_51.1.xs, t_51.1.cap⟩ : Sl (Int × (Sl (Int))))) > 0)) else some true).bind fun q_58 => (if q_58 = false then some (!(t_36.2 == (t_14 == 0))) else some true).bind fun q_60 => if q_60 then (some false) else if t_36.2 then ((p10 n).bind fun t_61 => some t_61) else (p21 n t_21.1 (1, ⟨[], some 0⟩)).bind fun t_70 => (p19 n t_70).bind fun t_79 => (p20 n t_70).bind fun t_88 => (if (!t_79.2) = true then some (!t_88.2) else some false).bind fun q_95 => (if q_95 = true then (p10 n).bind fun t_97 => some t_97 else some false).bind fun q_96 => some q_96
set_option maxHeartbeats 4000000 in
set_option maxRecDepth 100000 in
/-- plugboard/plugboardlaw10.PeriodicsStart -/
theorem c7 (K : Nat → Prop) (n : Nat) (w : World) (x0 : Bool × Int × Int × (Sl (Sl (Int))) × Int) (v0 : Value) (R0 : RepV (.st (.pair .bool (.pair (.int .u8) (.pair (.int .i64) (.pair (.sl (.sl (.int .u8))) (.int .i64)))))) w K v0 x0) {r : (Bool)} (h : p7 n x0 = some r) :
    Calls Try.prog 7 #[v0] w (Ret1 .bool w (Kx K w.heap.size []) r) := by
  refine enter (args := [v0]) Try.func7 rfl 69 rfl rfl fun a S => ?_
  have W := Wd.start w
  replace R0 := R0.arg
  unfold p7 at h
  replace S : St 69 a [(0, v0)] := S
  refine wp_seq ?_
  refine wp_region_lit ?_
  refine w_go S rfl (op_box S rfl rfl rfl rfl rfl R0 ?_)
  clear S; intro a w_3 b_1 hb_4 B_2 S
  replace R0 := R0.box hb_4
  replace W := W.box hb_4
  refine wl_pure (l' := [(2, .bool false), (1, .pointer (some (⟨b_1, 0, .none⟩ : Addr))), (0, v0)]) S tys tys_ok 1 (by kernel_rfl) ?_
  clear S; intro a S
  refine wpList_nil ?_
  refine then_n ?_
  replace S := S.sub (l' := [(1, .pointer (some (⟨b_1, 0, .none⟩ : Addr)))]) (by exact ⟨rfl, trivial⟩)
  refine wp_seq ?_
  refine wp_seq ?_
  refine wp_region_lit ?_
  refine w_go S rfl (op_load (t := (.st (.pair .bool (.pair (.int .u8) (.pair (.int .i64) (.pair (.sl (.sl (.int .u8))) (.int .i64))))))) (x := x0) S rfl ty42 rfl rfl rfl B_2.at_ ?_)
  clear S; intro a v_5 R_6 S
  obtain ⟨t_7, et_7, h⟩ := bindS h
  refine w_go S rfl (op_call (vs := [v_5]) S rfl cb16 rfl rfl rfl (c16 (Kx K w.heap.size [some b_1]) n w_3 x0 _ R_6 et_7) ?_)
  rintro _ w_11 ⟨v_8, rfl, R_9, hb_10⟩; refine ⟨_, rfl, ?_⟩
  replace R_9 := RepV.back R_9 W
  clear S; intro a S
  replace R_6 := R_6.step hb_10
  replace B_2 := B_2.step hb_10
  replace W := W.step hb_10
  obtain rfl := RepV.bool R_9
  refine wl_pure (l' := [(12, .bool (!t_7)), (11, .bool t_7), (10, v_5), (1, .pointer (some (⟨b_1, 0, .none⟩ : Addr)))]) S tys tys_ok 1 (by kernel_rfl) ?_
  clear S; intro a S
  refine wpList_nil ?_
  refine then_n ?_
  replace S := S.sub (l' := [(12, .bool (!t_7)), (1, .pointer (some (⟨b_1, 0, .none⟩ : Addr)))]) (by exact ⟨rfl, rfl, trivial⟩)
  refine wp_cond_split (S.eval (show ev _ _ = some (.bool (!t_7)) from rfl)) ?_ ?_
  · intro hc
    rw [if_pos hc] at h
    refine wp_seq ?_
    refine wp_region_lit ?_
    refine wl_pure (l' := [(2, .bool true), (12, .bool (!t_7)), (1, .pointer (some (⟨b_1, 0, .none⟩ : Addr)))]) S tys tys_ok 1 (by kernel_rfl) ?_
    clear S; intro a S
    refine wpList_nil ?_
    refine then_n ?_
    replace S := S.sub (l' := [(2, .bool true)]) (by exact ⟨rfl, trivial⟩)
    refine wp_ret ?_
    refine then_r ?_
    obtain rfl := Option.some.inj h
    exact b_ret1 S rfl rfl ⟨_, rfl, RepV.mkBool, W.below⟩
  · intro hc
    rw [if_neg (Bool.eq_false_iff.1 hc)] at h
    refine wp_skip ?_
    refine then_n ?_
    replace S := S.sub (l' := [(1, .pointer (some (⟨b_1, 0, .none⟩ : Addr)))]) (by exact ⟨rfl, trivial⟩)
    refine wp_seq ?_
    refine wp_region_lit ?_
    refine w_go S rfl (op_load (t := (.st (.pair .bool (.pair (.int .u8) (.pair (.int .i64) (.pair (.sl (.sl (.int .u8))) (.int .i64))))))) (x := x0) S rfl ty42 rfl rfl rfl B_2.at_ ?_)
    clear S; intro a v_12 R_13 S
    obtain ⟨t_14, et_14, h⟩ := bindS h
    refine w_go S rfl (op_call (vs := [v_12]) S rfl cb17 rfl rfl rfl (c17 (Kx K w.heap.size [some b_1]) n w_11 x0 _ R_13 et_14) ?_)
    rintro _ w_18 ⟨v_15, rfl, R_16, hb_17⟩; refine ⟨_, rfl, ?_⟩
    replace R_16 := RepV.back R_16 W
    clear S; intro a S
    replace R_13 := R_13.step hb_17
    replace B_2 := B_2.step hb_17
    replace W := W.step hb_17
    obtain ⟨rfl, GR_16⟩ := RepV.int R_16
    refine wl_pure (l' := [(3, .int .i64 t_14), (14, .int .i64 t_14), (13, v_12), (1, .pointer (some (⟨b_1, 0, .none⟩ : Addr)))]) S tys tys_ok 1 (by kernel_rfl) ?_
    clear S; intro a S
    refine wpList_nil ?_
    refine then_n ?_
    replace S := S.sub (l' := [(3, .int .i64 t_14), (1, .pointer (some (⟨b_1, 0, .none⟩ : Addr)))]) (by exact ⟨rfl, rfl, trivial⟩)
    refine wp_seq ?_
    refine wp_region_lit ?_
    refine w_go S rfl (op_load (t := (.st (.pair .bool (.pair (.int .u8) (.pair (.int .i64) (.pair (.sl (.sl (.int .u8))) (.int .i64))))))) (x := x0) S rfl ty42 rfl rfl rfl B_2.at_ ?_)
    clear S; intro a v_19 R_20 S
    obtain ⟨t_21, et_21, h⟩ := bindS h
    refine w_go S rfl (op_call (vs := [v_19]) S rfl cb18 rfl rfl rfl (c18 (Kx K w.heap.size [some b_1]) n w_18 x0 _ R_20 et_21) ?_)
    rintro _ w_27 ⟨v_22, v_23, rfl, R_24, R_25, hb_26⟩; refine ⟨_, rfl, ?_⟩
    replace R_24 := RepV.back R_24 W
    replace R_25 := RepV.back R_25 W
    clear S; intro a S
    replace R_20 := R_20.step hb_26
    replace B_2 := B_2.step hb_26
    replace W := W.step hb_26
    obtain ⟨rfl, GR_25⟩ := RepV.int R_25
    refine wl_pure (l' := [(19, .int .i64 t_21.2), (18, v_22), (15, .tuple #[v_22, .int .i64 t_21.2]), (17, .tuple #[v_22, .int .i64 t_21.2]), (16, v_19), (3, .int .i64 t_14), (1, .pointer (some (⟨b_1, 0, .none⟩ : Addr)))]) S tys tys_ok 3 (by kernel_rfl) ?_
    clear S; intro a S
    refine w_go S rfl (op_alloc (K := K) (n := w.heap.size) (L := [some b_1]) (t := (.st (.pair (.st (.pair .bool (.pair (.int .u8) (.pair (.int .i64) (.pair (.sl (.sl (.int .u8))) (.int .i64)))))) (.pair (.int .i64) (.sl (.st (.pair (.int .i64) (.sl (.int .u8))))))))) (y := ((false, 0, 0, ⟨[], some 0⟩, 0), 0, ⟨[], some 0⟩)) S rfl rfl rfl _ z47 (fun w K => ⟨[.bool false, .int .u8 0, .int .i64 0, .slice .none 0 0, .int .i64 0], [.int .i64 0, .slice .none 0 0], rfl, ⟨[.bool false], [.int .u8 0, .int .i64 0, .slice .none 0 0, .int .i64 0], rfl, rfl, ⟨[.int .u8 0], [.int .i64 0, .slice .none 0 0, .int .i64 0], rfl, ⟨rfl, by decide⟩, ⟨[.int .i64 0], [.slice .none 0 0, .int .i64 0], rfl, ⟨rfl, by decide⟩, ⟨[.slice .none 0 0], [.int .i64 0], rfl, ⟨.none, 0, 0, rfl, rfl, Nat.le_refl _, by decide, fun k h => Option.some.inj h, .inl rfl⟩, ⟨rfl, by decide⟩⟩⟩⟩⟩, ⟨[.int .i64 0], [.slice .none 0 0], rfl, ⟨rfl, by decide⟩, ⟨.none, 0, 0, rfl, rfl, Nat.le_refl _, by decide, fun k h => Option.some.inj h, .inl rfl⟩⟩⟩) ?_)
    clear S; intro a w_30 b_28 hb_31 B_29 S
    replace R_20 := R_20.box hb_31
    replace R_24 := R_24.box hb_31
    replace B_2 := B_2.box hb_31
    replace W := W.box hb_31
    refine w_go S rfl (op_store (t' := (.st (.pair (.st (.pair .bool (.pair (.int .u8) (.pair (.int .i64) (.pair (.sl (.sl (.int .u8))) (.int .i64)))))) (.pair (.int .i64) (.sl (.st (.pair (.int .i64) (.sl (.int .u8))))))))) S rfl rfl ty47 rfl rfl rfl B_29 (by simp) Ln.whole R_24 ?_)
    intro w_32 hw_33 B_
    replace R_20 := R_20.wrote hw_33 (by simp)
    replace R_24 := R_24.wrote hw_33 (by simp)
    replace B_2 := B_2.wrote hw_33 (by simp) (W.bne (p := 1) (q := 0) (by decide) rfl rfl)
    replace W := W.wrote hw_33 (by simp)
    replace B_29 : Bx (.st (.pair (.st (.pair .bool (.pair (.int .u8) (.pair (.int .i64) (.pair (.sl (.sl (.int .u8))) (.int .i64)))))) (.pair (.int .i64) (.sl (.st (.pair (.int .i64) (.sl (.int .u8)))))))) 47 w_32 (Kx K w.heap.size [some b_28, some b_1]) b_28 t_21.1 := B_; clear B_
    refine wl_pure (l' := [(5, .int .i64 t_21.2), (4, .pointer (some (⟨b_28, 0, .none⟩ : Addr))), (19, .int .i64 t_21.2), (18, v_22), (15, .tuple #[v_22, .int .i64 t_21.2]), (17, .tuple #[v_22, .int .i64 t_21.2]), (16, v_19), (3, .int .i64 t_14), (1, .pointer (some (⟨b_1, 0, .none⟩ : Addr)))]) S tys tys_ok 1 (by kernel_rfl) ?_
    clear S; intro a S
    refine wpList_nil ?_
    refine then_n ?_
    replace S := S.sub (l' := [(5, .int .i64 t_21.2), (4, .pointer (some (⟨b_28, 0, .none⟩ : Addr))), (3, .int .i64 t_14)]) (by exact ⟨rfl, rfl, rfl, trivial⟩)
    refine wp_seq ?_
    refine wp_seq ?_
    refine wp_region_lit ?_
    refine wl_pure (l' := [(22, .bool (t_21.2 != t_14)), (21, .int .i64 t_14), (20, .int .i64 t_21.2), (5, .int .i64 t_21.2), (4, .pointer (some (⟨b_28, 0, .none⟩ : Addr))), (3, .int .i64 t_14)]) S tys tys_ok 3 (by kernel_rfl) ?_
    clear S; intro a S
    refine wpList_nil ?_
    refine then_n ?_
    replace S := S.sub (l' := [(22, .bool (t_21.2 != t_14)), (4, .pointer (some (⟨b_28, 0, .none⟩ : Addr))), (3, .int .i64 t_14)]) (by exact ⟨rfl, rfl, rfl, trivial⟩)
    refine wp_cond_split (S.eval (show ev _ _ = some (.bool (t_21.2 != t_14)) from rfl)) ?_ ?_
    · intro hc
      rw [if_pos hc] at h
      refine wp_seq ?_
      refine wp_region_lit ?_
      refine wl_pure (l' := [(2, .bool false), (22, .bool (t_21.2 != t_14)), (4, .pointer (some (⟨b_28, 0, .none⟩ : Addr))), (3, .int .i64 t_14)]) S tys tys_ok 1 (by kernel_rfl) ?_
      clear S; intro a S
      refine wpList_nil ?_
      refine then_n ?_
      replace S := S.sub (l' := [(2, .bool false)]) (by exact ⟨rfl, trivial⟩)
      refine wp_ret ?_
      refine then_r ?_
      obtain rfl := Option.some.inj h
      exact b_ret1 S rfl rfl ⟨_, rfl, RepV.mkBool, W.below⟩
    · intro hc
      rw [if_neg (Bool.eq_false_iff.1 hc)] at h
      refine wp_skip ?_
      refine then_n ?_
      replace S := S.sub (l' := [(4, .pointer (some (⟨b_28, 0, .none⟩ : Addr))), (3, .int .i64 t_14)]) (by exact ⟨rfl, rfl, trivial⟩)
      refine wp_seq ?_
      refine wp_region_lit ?_
      refine w_go S rfl (op_load (t := (.st (.pair (.st (.pair .bool (.pair (.int .u8) (.pair (.int .i64) (.pair (.sl (.sl (.int .u8))) (.int .i64)))))) (.pair (.int .i64) (.sl (.st (.pair (.int .i64) (.sl (.int .u8))))))))) (x := t_21.1) S rfl ty47 rfl rfl rfl B_29.at_ ?_)
      clear S; intro a v_34 R_35 S
      obtain ⟨t_36, et_36, h⟩ := bindS h
      refine w_go S rfl (op_call (vs := [v_34]) S rfl cb19 rfl rfl rfl (c19 (Kx K w.heap.size [some b_28, some b_1]) n w_32 t_21.1 _ R_35 et_36) ?_)
      rintro _ w_42 ⟨v_37, v_38, rfl, R_39, R_40, hb_41⟩; refine ⟨_, rfl, ?_⟩
      replace R_39 := RepV.back R_39 W
      replace R_40 := RepV.back R_40 W
      clear S; intro a S
      replace R_35 := R_35.step hb_41
      replace B_2 := B_2.step hb_41
      replace B_29 := B_29.step hb_41
      replace W := W.step hb_41
      obtain rfl := RepV.bool R_40
      refine wl_pure (l' := [(27, .bool t_36.2), (26, v_37), (23, .tuple #[v_37, .bool t_36.2]), (25, .tuple #[v_37, .bool t_36.2]), (24, v_34), (4, .pointer (some (⟨b_28, 0, .none⟩ : Addr))), (3, .int .i64 t_14)]) S tys tys_ok 3 (by kernel_rfl) ?_
      clear S; intro a S
      refine w_go S rfl (op_alloc (K := K) (n := w.heap.size) (L := [some b_28, some b_1]) (t := (.st (.pair (.int .u8) (.pair (.int .u8) (.pair (.int .u8) (.pair .bool (.pair .bool (.pair (.int .i64) (.sl (.int .u8)))))))))) (y := (0, 0, 0, false, false, 0, ⟨[], some 0⟩)) S rfl rfl rfl _ z53 (fun w K => ⟨[.int .u8 0], [.int .u8 0, .int .u8 0, .bool false, .bool false, .int .i64 0, .slice .none 0 0], rfl, ⟨rfl, by decide⟩, ⟨[.int .u8 0], [.int .u8 0, .bool false, .bool false, .int .i64 0, .slice .none 0 0], rfl, ⟨rfl, by decide⟩, ⟨[.int .u8 0], [.bool false, .bool false, .int .i64 0, .slice .none 0 0], rfl, ⟨rfl, by decide⟩, ⟨[.bool false], [.bool false, .int .i64 0, .slice .none 0 0], rfl, rfl, ⟨[.bool false], [.int .i64 0, .slice .none 0 0], rfl, rfl, ⟨[.int .i64 0], [.slice .none 0 0], rfl, ⟨rfl, by decide⟩, ⟨.none, 0, 0, rfl, rfl, Nat.le_refl _, by decide, fun k h => Option.some.inj h, .inl rfl⟩⟩⟩⟩⟩⟩⟩) ?_)
      clear S; intro a w_45 b_43 hb_46 B_44 S
      replace R_35 := R_35.box hb_46
      replace R_39 := R_39.box hb_46
      replace B_2 := B_2.box hb_46
      replace B_29 := B_29.box hb_46
      replace W := W.box hb_46
      refine w_go S rfl (op_store (t' := (.st (.pair (.int .u8) (.pair (.int .u8) (.pair (.int .u8) (.pair .bool (.pair .bool (.pair (.int .i64) (.sl (.int .u8)))))))))) S rfl rfl ty53 rfl rfl rfl B_44 (by simp) Ln.whole R_39 ?_)
      intro w_47 hw_48 B_
      replace R_35 := R_35.wrote hw_48 (by simp)
      replace R_39 := R_39.wrote hw_48 (by simp)
      replace B_2 := B_2.wrote hw_48 (by simp) (W.bne (p := 2) (q := 0) (by decide) rfl rfl)
      replace B_29 := B_29.wrote hw_48 (by simp) (W.bne (p := 1) (q := 0) (by decide) rfl rfl)
      replace W := W.wrote hw_48 (by simp)
      replace B_44 : Bx (.st (.pair (.int .u8) (.pair (.int .u8) (.pair (.int .u8) (.pair .bool (.pair .bool (.pair (.int .i64) (.sl (.int .u8))))))))) 53 w_47 (Kx K w.heap.size [some b_43, some b_28, some b_1]) b_43 t_36.1 := B_; clear B_
      refine wl_pure (l' := [(7, .bool t_36.2), (6, .pointer (some (⟨b_43, 0, .none⟩ : Addr))), (27, .bool t_36.2), (26, v_37), (23, .tuple #[v_37, .bool t_36.2]), (25, .tuple #[v_37, .bool t_36.2]), (24, v_34), (4, .pointer (some (⟨b_28, 0, .none⟩ : Addr))), (3, .int .i64 t_14)]) S tys tys_ok 1 (by kernel_rfl) ?_
      clear S; intro a S
      refine wpList_nil ?_
      refine then_n ?_
      replace S := S.sub (l' := [(7, .bool t_36.2), (4, .pointer (some (⟨b_28, 0, .none⟩ : Addr))), (3, .int .i64 t_14)]) (by exact ⟨rfl, rfl, rfl, trivial⟩)
      refine wp_seq ?_
      refine wp_region_lit ?_
      refine w_go S rfl (op_load (t := (.st (.pair (.st (.pair .bool (.pair (.int .u8) (.pair (.int .i64) (.pair (.sl (.sl (.int .u8))) (.int .i64)))))) (.pair (.int .i64) (.sl (.st (.pair (.int .i64) (.sl (.int .u8))))))))) (x := t_21.1) S rfl ty47 rfl rfl rfl B_29.at_ ?_)
      clear S; intro a v_49 R_50 S
      obtain ⟨t_51, et_51, h⟩ := bindS h
      refine w_go S rfl (op_call (vs := [v_49]) S rfl cb20 rfl rfl rfl (c20 (Kx K w.heap.size [some b_43, some b_28, some b_1]) n w_47 t_21.1 _ R_50 et_51) ?_)
      rintro _ w_57 ⟨v_52, v_53, rfl, R_54, R_55, hb_56⟩; refine ⟨_, rfl, ?_⟩
      have NO_ := newO_of R_54 (Nat.le_refl _) hb_56
      replace R_54 := Ow.backO R_54 W
      replace R_55 := RepV.backO R_55 W
      clear S; intro a S
      replace R_50 := R_50.newO NO_
      replace B_2 := B_2.newO NO_
      replace B_29 := B_29.newO NO_
      replace B_44 := B_44.newO NO_
      replace W := W.newO NO_
      clear NO_
      obtain rfl := RepV.bool R_55
      refine wl_pure (l' := [(9, .bool t_51.2), (8, v_52), (32, .bool t_51.2), (31, v_52), (28, .tuple #[v_52, .bool t_51.2]), (30, .tuple #[v_52, .bool t_51.2]), (29, v_49), (7, .bool t_36.2), (4, .pointer (some (⟨b_28, 0, .none⟩ : Addr))), (3, .int .i64 t_14)]) S tys tys_ok 5 (by kernel_rfl) ?_
      clear S; intro a S
      refine wpList_nil ?_
      refine then_n ?_
      replace S := S.sub (l' := [(9, .bool t_51.2), (8, v_52), (7, .bool t_36.2), (4, .pointer (some (⟨b_28, 0, .none⟩ : Addr))), (3, .int .i64 t_14)]) (by exact ⟨rfl, rfl, rfl, rfl, rfl, trivial⟩)
      refine wp_seq ?_
      refine wp_seq ?_
      refine wp_region_lit ?_
      refine wl_pure (l' := [(34, .bool t_51.2), (33, .bool t_51.2), (9, .bool t_51.2), (8, v_52), (7, .bool t_36.2), (4, .pointer (some (⟨b_28, 0, .none⟩ : Addr))), (3, .int .i64 t_14)]) S tys tys_ok 2 (by kernel_rfl) ?_
      clear S; intro a S
      obtain ⟨q_58, eq_58, h⟩ := bindS h
      refine seg 4 (fun a_ w_ => w_57 = w_ ∧ St 69 a_ [(38, .bool q_58), (7, .bool t_36.2), (4, .pointer (some (⟨b_28, 0, .none⟩ : Addr))), (3, .int .i64 t_14)]) ?_ ?_
      · by_cases hc : t_51.2 = false
        · rw [if_pos hc] at eq_58; rw [hc] at S
          refine wl_pure (l' := [(35, v_52), (34, .bool false), (33, .bool false), (9, .bool false), (8, v_52), (7, .bool t_36.2), (4, .pointer (some (⟨b_28, 0, .none⟩ : Addr))), (3, .int .i64 t_14)]) S tys tys_ok 1 (by kernel_rfl) ?_
          clear S; intro a S
          refine w_go S rfl (op_len (K := _) S rfl ty45 rfl rfl rfl R_54.read ?_)
          clear S; intro a G_59 S
          refine wl_pure (l' := [(38, .bool (decide ((lenI (⟨t_51.1.xs, t_51.1.cap⟩ : Sl (Int × (Sl (Int))))) > 0))), (37, .bool (decide ((lenI (⟨t_51.1.xs, t_51.1.cap⟩ : Sl (Int × (Sl (Int))))) > 0))), (36, .int .i64 (lenI (⟨t_51.1.xs, t_51.1.cap⟩ : Sl (Int × (Sl (Int)))))), (35, v_52), (34, .bool false), (33, .bool false), (9, .bool false), (8, v_52), (7, .bool t_36.2), (4, .pointer (some (⟨b_28, 0, .none⟩ : Addr))), (3, .int .i64 t_14)]) S tys tys_ok 2 (by kernel_rfl) ?_
          clear S; intro a S
          obtain rfl := Option.some.inj eq_58
          exact ⟨rfl, S.sub (by exact ⟨rfl, rfl, rfl, rfl, trivial⟩)⟩
        · rw [if_neg hc] at eq_58; rw [show t_51.2 = true from (by simpa using hc)] at S
          refine wl_pure (l' := [(38, .bool true), (37, undef), (36, undef), (35, undef), (34, .bool true), (33, .bool true), (9, .bool true), (8, v_52), (7, .bool t_36.2), (4, .pointer (some (⟨b_28, 0, .none⟩ : Addr))), (3, .int .i64 t_14)]) S tys tys_ok 4 (by kernel_rfl) ?_
          clear S; intro a S
          obtain rfl := Option.some.inj eq_58
          exact ⟨rfl, S.sub (by exact ⟨rfl, rfl, rfl, rfl, trivial⟩)⟩
      clear S eq_58; rintro a _ ⟨rfl, S⟩
      refine wl_pure (l' := [(39, .bool q_58), (38, .bool q_58), (7, .bool t_36.2), (4, .pointer (some (⟨b_28, 0, .none⟩ : Addr))), (3, .int .i64 t_14)]) S tys tys_ok 1 (by kernel_rfl) ?_
      clear S; intro a S
      obtain ⟨q_60, eq_60, h⟩ := bindS h
      refine seg 5 (fun a_ w_ => w_57 = w_ ∧ St 69 a_ [(44, .bool q_60), (7, .bool t_36.2), (4, .pointer (some (⟨b_28, 0, .none⟩ : Addr)))]) ?_ ?_
      · by_cases hc : q_58 = false
        · rw [if_pos hc] at eq_60; rw [hc] at S
          refine wl_pure (l' := [(44, .bool (!(t_36.2 == (t_14 == 0)))), (43, .bool (!(t_36.2 == (t_14 == 0)))), (42, .bool (t_14 == 0)), (41, .int .i64 t_14), (40, .bool t_36.2), (39, .bool false), (38, .bool false), (7, .bool t_36.2), (4, .pointer (some (⟨b_28, 0, .none⟩ : Addr))), (3, .int .i64 t_14)]) S tys tys_ok 5 (by kernel_rfl) ?_
          clear S; intro a S
          obtain rfl := Option.some.inj eq_60
          exact ⟨rfl, S.sub (by exact ⟨rfl, rfl, rfl, trivial⟩)⟩
        · rw [if_neg hc] at eq_60; rw [show q_58 = true from (by simpa using hc)] at S
          refine wl_pure (l' := [(44, .bool true), (43, undef), (42, undef), (41, undef), (40, undef), (39, .bool true), (38, .bool true), (7, .bool t_36.2), (4, .pointer (some (⟨b_28, 0, .none⟩ : Addr))), (3, .int .i64 t_14)]) S tys tys_ok 5 (by kernel_rfl) ?_
          clear S; intro a S
          obtain rfl := Option.some.inj eq_60
          exact ⟨rfl, S.sub (by exact ⟨rfl, rfl, rfl, trivial⟩)⟩
      clear S eq_60; rintro a _ ⟨rfl, S⟩
      refine wpList_nil ?_
      refine then_n ?_
      refine wp_cond_split (S.eval (show ev _ _ = some (.bool q_60) from rfl)) ?_ ?_
      · intro hc
        rw [if_pos hc] at h
        refine wp_seq ?_
        refine wp_region_lit ?_
        refine wl_pure (l' := [(2, .bool false), (44, .bool q_60), (7, .bool t_36.2), (4, .pointer (some (⟨b_28, 0, .none⟩ : Addr)))]) S tys tys_ok 1 (by kernel_rfl) ?_
        clear S; intro a S
        refine wpList_nil ?_
        refine then_n ?_
        replace S := S.sub (l' := [(2, .bool false)]) (by exact ⟨rfl, trivial⟩)
        refine wp_ret ?_
        refine then_r ?_
        obtain rfl := Option.some.inj h
        exact b_ret1 S rfl rfl ⟨_, rfl, RepV.mkBool, W.below⟩
      · intro hc
        rw [if_neg (Bool.eq_false_iff.1 hc)] at h
        refine wp_skip ?_
        refine then_n ?_
        replace S := S.sub (l' := [(7, .bool t_36.2), (4, .pointer (some (⟨b_28, 0, .none⟩ : Addr)))]) (by exact ⟨rfl, rfl, trivial⟩)
        refine wp_seq ?_
        refine wp_seq ?_
        refine wp_region_lit ?_
        refine wl_pure (l' := [(45, .bool t_36.2), (7, .bool t_36.2), (4, .pointer (some (⟨b_28, 0, .none⟩ : Addr)))]) S tys tys_ok 1 (by kernel_rfl) ?_
        clear S; intro a S
        refine wpList_nil ?_
        refine then_n ?_
        replace S := S.sub (l' := [(45, .bool t_36.2), (4, .pointer (some (⟨b_28, 0, .none⟩ : Addr)))]) (by exact ⟨rfl, rfl, trivial⟩)
        refine wp_cond_split (S.eval (show ev _ _ = some (.bool t_36.2) from rfl)) ?_ ?_
        · intro hc
          rw [if_pos hc] at h
          refine wp_seq ?_
          refine wp_region_lit ?_
          obtain ⟨t_61, et_61, h⟩ := bindS h
          refine w_go S rfl (op_call (vs := []) S rfl cb10 rfl rfl rfl (c10 (Kx K w.heap.size [v_52.ownBlock, some b_43, some b_28, some b_1]) n w_57  et_61) ?_)
          rintro _ w_65 ⟨v_62, rfl, R_63, hb_64⟩; refine ⟨_, rfl, ?_⟩
          replace R_63 := RepV.back R_63 W
          clear S; intro a S
          replace B_2 := B_2.step hb_64
          replace B_29 := B_29.step hb_64
          replace B_44 := B_44.step hb_64
          replace W := W.step hb_64
          obtain rfl := RepV.bool R_63
          refine wl_pure (l' := [(2, .bool t_61), (46, .bool t_61), (45, .bool t_36.2), (4, .pointer (some (⟨b_28, 0, .none⟩ : Addr)))]) S tys tys_ok 1 (by kernel_rfl) ?_
          clear S; intro a S
          refine wpList_nil ?_
          refine then_n ?_
          replace S := S.sub (l' := [(2, .bool t_61)]) (by exact ⟨rfl, trivial⟩)
          refine wp_ret ?_
          refine then_r ?_
          obtain rfl := Option.some.inj h
          exact b_ret1 S rfl rfl ⟨_, rfl, RepV.mkBool, W.below⟩
        · intro hc
          rw [if_neg (Bool.eq_false_iff.1 hc)] at h
          refine wp_skip ?_
          refine then_n ?_
          replace S := S.sub (l' := [(4, .pointer (some (⟨b_28, 0, .none⟩ : Addr)))]) (by exact ⟨rfl, trivial⟩)
          refine wp_seq ?_
          refine wp_region_lit ?_
          refine w_go S rfl (op_load (t := (.st (.pair (.st (.pair .bool (.pair (.int .u8) (.pair (.int .i64) (.pair (.sl (.sl (.int .u8))) (.int .i64)))))) (.pair (.int .i64) (.sl (.st (.pair (.int .i64) (.sl (.int .u8))))))))) (x := t_21.1) S rfl ty47 rfl rfl rfl B_29.at_ ?_)
          clear S; intro a v_66 R_67 S
          refine w_go S rfl (op_build (K := (Kx K w.heap.size [v_52.ownBlock, some b_43, some b_28, some b_1])) (f := (.pair (.int .u8) (.sl (.int .u8)))) (z0 := (0, ⟨[], some 0⟩)) (x := (1, ⟨[], some 0⟩)) (vs := [.int .u8 1]) S _ rfl ty61 z61 (fun w K => ⟨[.int .u8 0], [.slice .none 0 0], rfl, ⟨rfl, by decide⟩, ⟨.none, 0, 0, rfl, rfl, Nat.le_refl _, by decide, fun k h => Option.some.inj h, .inl rfl⟩⟩) rfl rfl rfl [(0, .int .u8 1)] rfl ⟨_, (RepV.mkInt (by decide)), rfl, rfl, rfl⟩ ?_)
          clear S; intro a v_68 R_69 S
          obtain ⟨t_70, et_70, h⟩ := bindS h
          refine w_go S rfl (op_call (vs := [v_66, v_68]) S rfl cb21 rfl rfl rfl (c21 (Kx K w.heap.size [v_52.ownBlock, some b_43, some b_28, some b_1]) n w_57 t_21.1 _ R_67 (1, ⟨[], some 0⟩) _ R_69 et_70) ?_)
          rintro _ w_74 ⟨v_71, rfl, R_72, hb_73⟩; refine ⟨_, rfl, ?_⟩
          replace R_72 := RepV.back R_72 W
          clear S; intro a S
          replace R_67 := R_67.step hb_73
          replace R_69 := R_69.step hb_73
          replace B_2 := B_2.step hb_73
          replace B_29 := B_29.step hb_73
          replace B_44 := B_44.step hb_73
          replace W := W.step hb_73
          refine w_go S rfl (op_store (t' := (.st (.pair (.st (.pair .bool (.pair (.int .u8) (.pair (.int .i64) (.pair (.sl (.sl (.int .u8))) (.int .i64)))))) (.pair (.int .i64) (.sl (.st (.pair (.int .i64) (.sl (.int .u8))))))))) S rfl rfl ty47 rfl rfl rfl B_29 (by simp) Ln.whole R_72 ?_)
          intro w_75 hw_76 B_
          replace R_67 := R_67.wrote hw_76 (by simp)
          replace R_69 := R_69.wrote hw_76 (by simp)
          replace R_72 := R_72.wrote hw_76 (by simp)
          replace B_2 := B_2.wrote hw_76 (by simp) (W.bne (p := 3) (q := 2) (by decide) rfl rfl)
          replace B_44 := B_44.wrote hw_76 (by simp) (W.bne (p := 1) (q := 2) (by decide) rfl rfl)
          replace W := W.wrote hw_76 (by simp)
          replace B_29 : Bx (.st (.pair (.st (.pair .bool (.pair (.int .u8) (.pair (.int .i64) (.pair (.sl (.sl (.int .u8))) (.int .i64)))))) (.pair (.int .i64) (.sl (.st (.pair (.int .i64) (.sl (.int .u8)))))))) 47 w_75 (Kx K w.heap.size [v_52.ownBlock, some b_43, some b_28, some b_1]) b_28 t_70 := B_; clear B_
          refine wpList_nil ?_
          refine then_n ?_
          replace S := S.sub (l' := [(4, .pointer (some (⟨b_28, 0, .none⟩ : Addr)))]) (by exact ⟨rfl, trivial⟩)
          refine wp_seq ?_
          refine wp_region_lit ?_
          refine w_go S rfl (op_load (t := (.st (.pair (.st (.pair .bool (.pair (.int .u8) (.pair (.int .i64) (.pair (.sl (.sl (.int .u8))) (.int .i64)))))) (.pair (.int .i64) (.sl (.st (.pair (.int .i64) (.sl (.int .u8))))))))) (x := t_70) S rfl ty47 rfl rfl rfl B_29.at_ ?_)
          clear S; intro a v_77 R_78 S
          obtain ⟨t_79, et_79, h⟩ := bindS h
          refine w_go S rfl (op_call (vs := [v_77]) S rfl cb19 rfl rfl rfl (c19 (Kx K w.heap.size [v_52.ownBlock, some b_43, some b_28, some b_1]) n w_75 t_70 _ R_78 et_79) ?_)
          rintro _ w_85 ⟨v_80, v_81, rfl, R_82, R_83, hb_84⟩; refine ⟨_, rfl, ?_⟩
          replace R_82 := RepV.back R_82 W
          replace R_83 := RepV.back R_83 W
          clear S; intro a S
          replace R_78 := R_78.step hb_84
          replace B_2 := B_2.step hb_84
          replace B_29 := B_29.step hb_84
          replace B_44 := B_44.step hb_84
          replace W := W.step hb_84
          obtain rfl := RepV.bool R_83
          refine wl_pure (l' := [(7, .bool t_79.2), (54, .bool t_79.2), (53, v_80), (50, .tuple #[v_80, .bool t_79.2]), (52, .tuple #[v_80, .bool t_79.2]), (51, v_77), (4, .pointer (some (⟨b_28, 0, .none⟩ : Addr)))]) S tys tys_ok 4 (by kernel_rfl) ?_
          clear S; intro a S
          refine wpList_nil ?_
          refine then_n ?_
          replace S := S.sub (l' := [(7, .bool t_79.2), (4, .pointer (some (⟨b_28, 0, .none⟩ : Addr)))]) (by exact ⟨rfl, rfl, trivial⟩)
          refine wp_seq ?_
          refine wp_region_lit ?_
          refine w_go S rfl (op_load (t := (.st (.pair (.st (.pair .bool (.pair (.int .u8) (.pair (.int .i64) (.pair (.sl (.sl (.int .u8))) (.int .i64)))))) (.pair (.int .i64) (.sl (.st (.pair (.int .i64) (.sl (.int .u8))))))))) (x := t_70) S rfl ty47 rfl rfl rfl B_29.at_ ?_)
          clear S; intro a v_86 R_87 S
          obtain ⟨t_88, et_88, h⟩ := bindS h
          refine w_go S rfl (op_call (vs := [v_86]) S rfl cb20 rfl rfl rfl (c20 (Kx K w.heap.size [v_52.ownBlock, some b_43, some b_28, some b_1]) n w_85 t_70 _ R_87 et_88) ?_)
          rintro _ w_94 ⟨v_89, v_90, rfl, R_91, R_92, hb_93⟩; refine ⟨_, rfl, ?_⟩
          have NO_ := newO_of R_91 (Nat.le_refl _) hb_93
          replace R_91 := Ow.backO R_91 W
          replace R_92 := RepV.backO R_92 W
          clear S; intro a S
          replace R_87 := R_87.newO NO_
          replace B_2 := B_2.newO NO_
          replace B_29 := B_29.newO NO_
          replace B_44 := B_44.newO NO_
          replace W := W.newO NO_
          clear NO_
          obtain rfl := RepV.bool R_92
          refine wl_pure (l' := [(9, .bool t_88.2), (59, .bool t_88.2), (58, v_89), (55, .tuple #[v_89, .bool t_88.2]), (57, .tuple #[v_89, .bool t_88.2]), (56, v_86), (7, .bool t_79.2), (4, .pointer (some (⟨b_28, 0, .none⟩ : Addr)))]) S tys tys_ok 4 (by kernel_rfl) ?_
          clear S; intro a S
          refine wpList_nil ?_
          refine then_n ?_
          replace S := S.sub (l' := [(9, .bool t_88.2), (7, .bool t_79.2)]) (by exact ⟨rfl, rfl, trivial⟩)
          refine wp_seq ?_
          refine wp_region_lit ?_
          refine wl_pure (l' := [(62, .bool (!t_79.2)), (61, .bool (!t_79.2)), (60, .bool t_79.2), (9, .bool t_88.2), (7, .bool t_79.2)]) S tys tys_ok 3 (by kernel_rfl) ?_
          clear S; intro a S
          obtain ⟨q_95, eq_95, h⟩ := bindS h
          refine seg 3 (fun a_ w_ => w_94 = w_ ∧ St 69 a_ [(65, .bool q_95)]) ?_ ?_
          · by_cases hc : (!t_79.2) = true
            · rw [if_pos hc] at eq_95; rw [hc] at S
              refine wl_pure (l' := [(65, .bool (!t_88.2)), (64, .bool (!t_88.2)), (63, .bool t_88.2), (62, .bool true), (61, .bool true), (60, .bool t_79.2), (9, .bool t_88.2), (7, .bool t_79.2)]) S tys tys_ok 3 (by kernel_rfl) ?_
              clear S; intro a S
              obtain rfl := Option.some.inj eq_95
              exact ⟨rfl, S.sub (by exact ⟨rfl, trivial⟩)⟩
            · rw [if_neg hc] at eq_95; rw [show (!t_79.2) = false from Bool.eq_false_iff.2 hc] at S
              refine wl_pure (l' := [(65, .bool false), (64, undef), (63, undef), (62, .bool false), (61, .bool false), (60, .bool t_79.2), (9, .bool t_88.2), (7, .bool t_79.2)]) S tys tys_ok 3 (by kernel_rfl) ?_
              clear S; intro a S
              obtain rfl := Option.some.inj eq_95
              exact ⟨rfl, S.sub (by exact ⟨rfl, trivial⟩)⟩
          clear S eq_95; rintro a _ ⟨rfl, S⟩
          refine wl_pure (l' := [(66, .bool q_95), (65, .bool q_95)]) S tys tys_ok 1 (by kernel_rfl) ?_
          clear S; intro a S
          obtain ⟨q_96, eq_96, h⟩ := bindS h
          refine seg 2 (fun a_ w_ => St 69 a_ [(68, .bool q_96)] ∧ Wd w w_ [v_89.ownBlock, v_52.ownBlock, some b_43, some b_28, some b_1] ∧ Bx (.st (.pair .bool (.pair (.int .u8) (.pair (.int .i64) (.pair (.sl (.sl (.int .u8))) (.int .i64)))))) 42 w_ (Kx K w.heap.size [v_89.ownBlock, v_52.ownBlock, some b_43, some b_28, some b_1]) b_1 x0 ∧ Bx (.st (.pair (.st (.pair .bool (.pair (.int .u8) (.pair (.int .i64) (.pair (.sl (.sl (.int .u8))) (.int .i64)))))) (.pair (.int .i64) (.sl (.st (.pair (.int .i64) (.sl (.int .u8)))))))) 47 w_ (Kx K w.heap.size [v_89.ownBlock, v_52.ownBlock, some b_43, some b_28, some b_1]) b_28 t_70 ∧ Bx (.st (.pair (.int .u8) (.pair (.int .u8) (.pair (.int .u8) (.pair .bool (.pair .bool (.pair (.int .i64) (.sl (.int .u8))))))))) 53 w_ (Kx K w.heap.size [v_89.ownBlock, v_52.ownBlock, some b_43, some b_28, some b_1]) b_43 t_36.1) ?_ ?_
          · by_cases hc : q_95 = true
            · rw [if_pos hc] at eq_96; rw [hc] at S
              obtain ⟨t_97, et_97, eq_96⟩ := bindS eq_96
              refine w_go S rfl (op_call (vs := []) S rfl cb10 rfl rfl rfl (c10 (Kx K w.heap.size [v_89.ownBlock, v_52.ownBlock, some b_43, some b_28, some b_1]) n w_94  et_97) ?_)
              rintro _ w_101 ⟨v_98, rfl, R_99, hb_100⟩; refine ⟨_, rfl, ?_⟩
              replace R_99 := RepV.back R_99 W
              clear S; intro a S
              replace B_2 := B_2.step hb_100
              replace B_29 := B_29.step hb_100
              replace B_44 := B_44.step hb_100
              replace W := W.step hb_100
              obtain rfl := RepV.bool R_99
              refine wl_pure (l' := [(68, .bool t_97), (67, .bool t_97), (66, .bool true), (65, .bool true)]) S tys tys_ok 1 (by kernel_rfl) ?_
              clear S; intro a S
              obtain rfl := Option.some.inj eq_96
              exact ⟨S.sub (by exact ⟨rfl, trivial⟩), W, B_2, B_29, B_44⟩
            · rw [if_neg hc] at eq_96; rw [show q_95 = false from Bool.eq_false_iff.2 hc] at S
              refine wl_pure (l' := [(68, .bool false), (67, undef), (66, .bool false), (65, .bool false)]) S tys tys_ok 2 (by kernel_rfl) ?_
              clear S; intro a S
              obtain rfl := Option.some.inj eq_96
              exact ⟨S.sub (by exact ⟨rfl, trivial⟩), W, B_2, B_29, B_44⟩
          clear S W eq_96; rintro a w_102 ⟨S, W, B_2, B_29, B_44⟩
          refine wl_pure (l' := [(2, .bool q_96), (68, .bool q_96)]) S tys tys_ok 1 (by kernel_rfl) ?_
          clear S; intro a S
          refine wpList_nil ?_
          refine then_n ?_
          replace S := S.sub (l' := [(2, .bool q_96)]) (by exact ⟨rfl, trivial⟩)
          refine wp_ret ?_
          obtain rfl := Option.some.inj h
          exact b_ret1 S rfl rfl ⟨_, rfl, RepV.mkBool, W.below⟩

end Go.Proofs.Ytpllbhofpppfcaa
