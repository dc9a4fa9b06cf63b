/- x. -/
import Derived.Test.YtlgalcekkffhnaaN1
set_option linter.unusedVariables false
set_option linter.unusedSimpArgs false
namespace Go.Proofs.Ytlgalcekkffhnaa
open Go.RowKit

def p12_l1 (n : Nat) (x0 : Sl (Int)) (t_23 : (Int)) (t_351 : (Int)) : Nat → (Int) → (List (Sl (Int))) → Option (((List (Sl (Int)))) ⊕ ((Int × (Sl (Sl (Int)))) × (Int)))
  | 0, _, _ => .none
  | m + 1, c_417, c_419 => (ckI .i64 (t_23 + t_351)).bind fun x_435 => (ckI .i64 (x_435 - 4)).bind fun x_436 => if (decide (c_417 < x_436)) then ((p25 n c_417 x0).bind fun t_437 => (ckI .i64 (c_417 + 2)).bind fun x_442 => (p25 n x_442 x0).bind fun t_443 => (if (t_437 == 0) = true then some (t_443 == 0) else some false).bind fun q_448 => if q_448 then (some (.inl c_419)) else (if (decide (t_437 < 12)) = false then (remI .i64 t_437 4).bind fun x_450 => some (x_450 != 0) else some true).bind fun q_449 => (if q_449 = false then some (decide (t_443 < 1)) else some true).bind fun q_451 => (if q_451 = false then some (decide (t_443 > 1514)) else some true).bind fun q_452 => (if q_452 = false then (ckI .i64 (t_437 + t_443)).bind fun x_454 => some (decide (x_454 > (lenI x0))) else some true).bind fun q_453 => if q_453 then (some (.inr ((0, (⟨[], some 0⟩ : Sl (Sl (Int)))), 4))) else (ckI .i64 (t_437 + t_443)).bind fun x_469 => (slI x0 t_437 x_469).bind fun s_472 => (p26 n s_472).bind fun t_473 => (p24 n t_473).bind fun t_478 => (appI c_419 ([t_478])).bind fun l_547 => (ckI .i64 (c_417 + 4)).bind fun x_554 => p12_l1 n x0 t_23 t_351 m x_554 l_547) else some (.inl c_419)
def p12 (n : Nat) (x0 : Sl (Int)) : Option ((Int × (Sl (Sl (Int)))) × (Int)) :=
  (if (decide ((lenI x0) < 12)) = false then some (decide ((lenI x0) > 16384)) else some true).bind fun q_12 =>
  if q_12 then (some ((0, (⟨[], some 0⟩ : Sl (Sl (Int)))), 4)) else (p25 n 10 x0).bind fun t_23 => (slI x0 0 4).bind fun s_32 => (if (!(decide (s_32.xs = [78, 67, 77, 72]))) = false then (p25 n 4 x0).bind fun t_35 => some (t_35 != 12) else some true).bind fun q_33 => (if q_33 = false then (p25 n 8 x0).bind fun t_42 => some (t_42 != (lenI x0)) else some true).bind fun q_40 => (if q_40 = false then some (decide (t_23 < 12)) else some true).bind fun q_50 => (if q_50 = false then (remI .i64 t_23 4).bind fun x_54 => some (x_54 != 0) else some true).bind fun q_52 => (if q_52 = false then (ckI .i64 (t_23 + 12)).bind fun x_57 => some (decide (x_57 > (lenI x0))) else some true).bind fun q_55 => if q_55 then (some ((0, (⟨[], some 0⟩ : Sl (Sl (Int)))), 4)) else (ckI .i64 (t_23 + 4)).bind fun x_350 => (p25 n x_350 x0).bind fun t_351 => (ckI .i64 (t_23 + 4)).bind fun x_358 => (slI x0 t_23 x_358).bind fun s_361 => (if (!(decide (s_361.xs = [78, 67, 77, 48]))) = false then some (decide (t_351 < 12)) else some true).bind fun q_362 => (if q_362 = false then (remI .i64 t_351 4).bind fun x_364 => some (x_364 != 0) else some true).bind fun q_363 => (if q_363 = false then (ckI .i64 (t_23 + t_351)).bind fun x_366 => some (decide (x_366 > (lenI x0))) else some true).bind fun q_365 => (if q_365 = false then (ckI .i64 (t_23 + 6)).bind fun x_371 => (p25 n x_371 x0).bind fun t_372 => some (t_372 != 0) else some true).bind fun q_370 => (if q_370 = false then (ckI .i64 (t_23 + t_351)).bind fun x_379 => (ckI .i64 (x_379 - 4)).bind fun x_380 => (p25 n x_380 x0).bind fun t_381 => some (t_381 != 0) else some true).bind fun q_378 => (if q_378 = false then (ckI .i64 (t_23 + t_351)).bind fun x_388 => (ckI .i64 (x_388 - 2)).bind fun x_389 => (p25 n x_389 x0).bind fun t_390 => some (t_390 != 0) else some true).bind fun q_387 => if q_387 then (some ((0, (⟨[], some 0⟩ : Sl (Sl (Int)))), 4)) else (p25 n 6 x0).bind fun t_403 => (ckI .i64 (t_23 + 8)).bind fun x_416 => (p12_l1 n x0 t_23 t_351 n x_416 []).bind fun (y_427 : ((List (Sl (Int)))) ⊕ ((Int × (Sl (Sl (Int)))) × (Int))) => lrK y_427 some fun (s_428 : (List (Sl (Int)))) => if (decide ((lenI (⟨s_428, .none⟩ : Sl (Sl (Int)))) > 64)) then (some ((0, (⟨[], some 0⟩ : Sl (Sl (Int)))), 3)) else (p27 n (⟨s_428, .none⟩ : Sl (Sl (Int)))).bind fun t_569 => some ((IntKind.wrap .u16 t_403, t_569), 0)
set_option maxHeartbeats 4000000 in
set_option maxRecDepth 100000 in
/-- plugboard/networks.Decode -/
theorem c12 (K : Nat → Prop) (n : Nat) (w : World) (x0 : Sl (Int)) (v0 : Value) (R0 : RepV (.sl (.int .u8)) w K v0 x0) {r : (Int × (Sl (Sl (Int)))) × (Int)} (h : p12 n x0 = some r) :
    Calls Try.prog 12 #[v0] w (Ret2 (.st (.pair (.int .u16) (.sl (.sl (.int .u8))))) (.int .i64) w (Kx K w.heap.size []) r) := by
  refine enter (args := [v0]) Try.func12 rfl 184 rfl rfl fun a S => ?_
  have W := Wd.start w
  replace R0 := R0.arg
  unfold p12 at h
  replace S : St 184 a [(0, v0)] := S
  refine wp_seq ?_
  refine wp_region_lit ?_
  refine w_go S rfl (op_box S rfl rfl rfl rfl rfl R0 ?_)
  clear S; intro a w_3 b_1 hb_4 B_2 S
  replace R0 := R0.box hb_4
  replace W := W.box hb_4
  refine w_go S rfl (op_alloc (K := K) (n := w.heap.size) (L := [some b_1]) (t := (.st (.pair (.int .u16) .raw))) (y := (0, (.slice .none 0 0))) S rfl rfl rfl _ z25 (fun w K => ⟨[.int .u16 0], [.slice .none 0 0], rfl, ⟨rfl, by decide⟩, ⟨rfl, _, _, _, rfl⟩⟩) ?_)
  clear S; intro a w_7 b_5 hb_8 B_6 S
  replace R0 := R0.box hb_8
  replace B_2 := B_2.box hb_8
  replace W := W.box hb_8
  refine wl_pure (l' := [(3, .int .i64 0), (2, .pointer (some (⟨b_5, 0, .none⟩ : Addr))), (1, .pointer (some (⟨b_1, 0, .none⟩ : Addr))), (0, v0)]) S tys tys_ok 1 (by kernel_rfl) ?_
  clear S; intro a S
  refine wpList_nil ?_
  refine then_n ?_
  replace S := S.sub (l' := [(2, .pointer (some (⟨b_5, 0, .none⟩ : Addr))), (1, .pointer (some (⟨b_1, 0, .none⟩ : Addr)))]) (by exact ⟨rfl, rfl, trivial⟩)
  refine wp_seq ?_
  refine wp_seq ?_
  refine wp_region_lit ?_
  refine w_go S rfl (op_load (t := (.sl (.int .u8))) (x := x0) S rfl ty28 rfl rfl rfl B_2.at_ ?_)
  clear S; intro a v_9 R_10 S
  refine w_go S rfl (op_len (K := _) S rfl ty28 rfl rfl rfl R_10 ?_)
  clear S; intro a G_11 S
  refine wl_pure (l' := [(14, .bool (decide ((lenI x0) < 12))), (13, .bool (decide ((lenI x0) < 12))), (12, .int .i64 (lenI x0)), (11, v_9), (2, .pointer (some (⟨b_5, 0, .none⟩ : Addr))), (1, .pointer (some (⟨b_1, 0, .none⟩ : Addr)))]) S tys tys_ok 2 (by kernel_rfl) ?_
  clear S; intro a S
  obtain ⟨q_12, eq_12, h⟩ := bindS h
  refine seg 4 (fun a_ w_ => w_7 = w_ ∧ St 184 a_ [(18, .bool q_12), (2, .pointer (some (⟨b_5, 0, .none⟩ : Addr))), (1, .pointer (some (⟨b_1, 0, .none⟩ : Addr)))]) ?_ ?_
  · by_cases hc : (decide ((lenI x0) < 12)) = false
    · rw [if_pos hc] at eq_12; rw [hc] at S
      refine w_go S rfl (op_load (t := (.sl (.int .u8))) (x := x0) S rfl ty28 rfl rfl rfl B_2.at_ ?_)
      clear S; intro a v_13 R_14 S
      refine w_go S rfl (op_len (K := _) S rfl ty28 rfl rfl rfl R_14 ?_)
      clear S; intro a G_15 S
      refine wl_pure (l' := [(18, .bool (decide ((lenI x0) > 16384))), (17, .bool (decide ((lenI x0) > 16384))), (16, .int .i64 (lenI x0)), (15, v_13), (14, .bool false), (13, .bool false), (12, .int .i64 (lenI x0)), (11, v_9), (2, .pointer (some (⟨b_5, 0, .none⟩ : Addr))), (1, .pointer (some (⟨b_1, 0, .none⟩ : Addr)))]) S tys tys_ok 2 (by kernel_rfl) ?_
      clear S; intro a S
      obtain rfl := Option.some.inj eq_12
      exact ⟨rfl, S.sub (by exact ⟨rfl, rfl, rfl, trivial⟩)⟩
    · rw [if_neg hc] at eq_12; rw [show (decide ((lenI x0) < 12)) = true from (by simpa using hc)] at S
      refine wl_pure (l' := [(18, .bool true), (17, undef), (16, undef), (15, undef), (14, .bool true), (13, .bool true), (12, .int .i64 (lenI x0)), (11, v_9), (2, .pointer (some (⟨b_5, 0, .none⟩ : Addr))), (1, .pointer (some (⟨b_1, 0, .none⟩ : Addr)))]) S tys tys_ok 4 (by kernel_rfl) ?_
      clear S; intro a S
      obtain rfl := Option.some.inj eq_12
      exact ⟨rfl, S.sub (by exact ⟨rfl, rfl, rfl, trivial⟩)⟩
  clear S eq_12; rintro a _ ⟨rfl, S⟩
  refine wpList_nil ?_
  refine then_n ?_
  refine wp_cond_split (S.eval (show ev _ _ = some (.bool q_12) from rfl)) ?_ ?_
  · intro hc
    rw [if_pos hc] at h
    refine wp_seq ?_
    refine wp_region_lit ?_
    refine w_go S rfl (op_build (K := (Kx K w.heap.size [some b_5, some b_1])) (f := (.pair (.int .u16) .raw)) (z0 := (0, (.slice .none 0 0))) (x := (0, (.slice .none 0 0))) (vs := []) S _ rfl tyw25_1 z25 (fun w K => ⟨[.int .u16 0], [.slice .none 0 0], rfl, ⟨rfl, by decide⟩, ⟨rfl, _, _, _, rfl⟩⟩) rfl rfl rfl [] rfl rfl ?_)
    clear S; intro a v_16 R_17 S
    refine w_go S rfl (op_store (t' := (.st (.pair (.int .u16) .raw))) S rfl rfl tyw25_1 rfl rfl rfl B_6 (by simp) Ln.whole R_17 ?_)
    intro w_18 hw_19 B_
    replace R_17 := R_17.wrote hw_19 (by simp)
    replace B_2 := B_2.wrote hw_19 (by simp) (W.bne (p := 1) (q := 0) (by decide) rfl rfl)
    replace W := W.wrote hw_19 (by simp)
    replace B_6 : Bx (.st (.pair (.int .u16) .raw)) 25 w_18 (Kx K w.heap.size [some b_5, some b_1]) b_5 (0, (.slice .none 0 0)) := B_; clear B_
    refine wl_pure (l' := [(3, .int .i64 4), (19, v_16), (18, .bool q_12), (2, .pointer (some (⟨b_5, 0, .none⟩ : Addr))), (1, .pointer (some (⟨b_1, 0, .none⟩ : Addr)))]) S tys tys_ok 1 (by kernel_rfl) ?_
    clear S; intro a S
    refine wpList_nil ?_
    refine then_n ?_
    replace S := S.sub (l' := [(3, .int .i64 4), (2, .pointer (some (⟨b_5, 0, .none⟩ : Addr)))]) (by exact ⟨rfl, rfl, trivial⟩)
    refine wp_ret ?_
    refine then_r ?_
    replace B_6 : Bx (.st (.pair (.int .u16) (.sl (.sl (.int .u8))))) 25 w_18 (Kx K w.heap.size [some b_5, some b_1]) b_5 (0, (⟨[], some 0⟩ : Sl (Sl (Int)))) := Bx.unraw (f := (.pair (.int .u16) (.sl (.sl (.int .u8))))) 1 (0, (⟨[], some 0⟩ : Sl (Sl (Int)))) rfl B_6 RepV.nil
    obtain ⟨v_20, hr_21, R_22⟩ := res_cell (P := Try.prog) (T := 25) (t := (.st (.pair (.int .u16) (.sl (.sl (.int .u8)))))) (x := (0, (⟨[], some 0⟩ : Sl (Sl (Int))))) S (s := 2) rfl ty25 B_6.at_
    obtain rfl := Option.some.inj h
    exact b_res2 S rfl hr_21 (res_tmp S rfl) ⟨_, _, rfl, R_22.out, (RepV.mkInt (by decide)), W.below⟩
  · intro hc
    rw [if_neg (Bool.eq_false_iff.1 hc)] at h
    refine wp_skip ?_
    refine then_n ?_
    replace S := S.sub (l' := [(2, .pointer (some (⟨b_5, 0, .none⟩ : Addr))), (1, .pointer (some (⟨b_1, 0, .none⟩ : Addr)))]) (by exact ⟨rfl, rfl, trivial⟩)
    refine wp_seq ?_
    refine wp_region_lit ?_
    refine w_go S rfl (op_mkfn (vs := []) (us := [.pointer (some (⟨b_1, 0, .none⟩ : Addr))]) S rfl rfl rfl rfl rfl ?_)
    clear S; intro a S
    refine wl_pure (l' := [(4, .func (.func 25) #[] #[.pointer (some (⟨b_1, 0, .none⟩ : Addr))]), (20, .func (.func 25) #[] #[.pointer (some (⟨b_1, 0, .none⟩ : Addr))]), (2, .pointer (some (⟨b_5, 0, .none⟩ : Addr))), (1, .pointer (some (⟨b_1, 0, .none⟩ : Addr)))]) S tys tys_ok 1 (by kernel_rfl) ?_
    clear S; intro a S
    refine wpList_nil ?_
    refine then_n ?_
    replace S := S.sub (l' := [(4, .func (.func 25) #[] #[.pointer (some (⟨b_1, 0, .none⟩ : Addr))]), (2, .pointer (some (⟨b_5, 0, .none⟩ : Addr))), (1, .pointer (some (⟨b_1, 0, .none⟩ : Addr)))]) (by exact ⟨rfl, rfl, rfl, trivial⟩)
    refine wp_seq ?_
    refine wp_region_lit ?_
    refine wl_pure (l' := [(21, .func (.func 25) #[] #[.pointer (some (⟨b_1, 0, .none⟩ : Addr))]), (4, .func (.func 25) #[] #[.pointer (some (⟨b_1, 0, .none⟩ : Addr))]), (2, .pointer (some (⟨b_5, 0, .none⟩ : Addr))), (1, .pointer (some (⟨b_1, 0, .none⟩ : Addr)))]) S tys tys_ok 1 (by kernel_rfl) ?_
    clear S; intro a S
    obtain ⟨t_23, et_23, h⟩ := bindS h
    refine w_go S rfl (op_calld (vs := [.int .i64 10]) S rfl rfl cb25 rfl rfl rfl (c25 (Kx K w.heap.size [some b_5, some b_1]) n w_7 10 (by decide) _ x0 (Bx.br B_2) et_23) ?_)
    rintro _ w_27 ⟨v_24, rfl, R_25, hb_26⟩; refine ⟨_, rfl, ?_⟩
    replace R_25 := RepV.back R_25 W
    clear S; intro a S
    replace B_2 := B_2.step hb_26
    replace B_6 := B_6.step hb_26
    replace W := W.step hb_26
    obtain ⟨rfl, GR_25⟩ := RepV.int R_25
    refine wl_pure (l' := [(5, .int .i64 t_23), (22, .int .i64 t_23), (21, .func (.func 25) #[] #[.pointer (some (⟨b_1, 0, .none⟩ : Addr))]), (4, .func (.func 25) #[] #[.pointer (some (⟨b_1, 0, .none⟩ : Addr))]), (2, .pointer (some (⟨b_5, 0, .none⟩ : Addr))), (1, .pointer (some (⟨b_1, 0, .none⟩ : Addr)))]) S tys tys_ok 1 (by kernel_rfl) ?_
    clear S; intro a S
    refine wpList_nil ?_
    refine then_n ?_
    replace S := S.sub (l' := [(5, .int .i64 t_23), (4, .func (.func 25) #[] #[.pointer (some (⟨b_1, 0, .none⟩ : Addr))]), (2, .pointer (some (⟨b_5, 0, .none⟩ : Addr))), (1, .pointer (some (⟨b_1, 0, .none⟩ : Addr)))]) (by exact ⟨rfl, rfl, rfl, rfl, trivial⟩)
    refine wp_seq ?_
    refine wp_seq ?_
    obtain ⟨s_32, es_32, h⟩ := bindS h
    obtain ⟨q_33, eq_33, h⟩ := bindS h
    obtain ⟨t_35, HG_34⟩ : ∃ (t_35 : (Int)) , ((!(decide (s_32.xs = [78, 67, 77, 72]))) = false → (p25 n 4 x0) = some t_35 ∧ (t_35 != 12) = q_33) ∧ (¬ (!(decide (s_32.xs = [78, 67, 77, 72]))) = false → true = q_33) := by
      by_cases hc : (!(decide (s_32.xs = [78, 67, 77, 72]))) = false
      · rw [if_pos hc] at eq_33
        obtain ⟨t_35, et_35, eq_33⟩ := bindS eq_33
        exact ⟨t_35, ⟨fun _ => ⟨et_35, Option.some.inj eq_33⟩, fun k_ => absurd hc k_⟩⟩
      · rw [if_neg hc] at eq_33
        exact ⟨default, ⟨fun k_ => absurd k_ hc, fun _ => Option.some.inj eq_33⟩⟩
    obtain ⟨q_40, eq_40, h⟩ := bindS h
    obtain ⟨t_42, HG_41⟩ : ∃ (t_42 : (Int)) , (q_33 = false → (p25 n 8 x0) = some t_42 ∧ (t_42 != (lenI x0)) = q_40) ∧ (¬ q_33 = false → true = q_40) := by
      by_cases hc : q_33 = false
      · rw [if_pos hc] at eq_40
        obtain ⟨t_42, et_42, eq_40⟩ := bindS eq_40
        exact ⟨t_42, ⟨fun _ => ⟨et_42, Option.some.inj eq_40⟩, fun k_ => absurd hc k_⟩⟩
      · rw [if_neg hc] at eq_40
        exact ⟨default, ⟨fun k_ => absurd k_ hc, fun _ => Option.some.inj eq_40⟩⟩
    obtain ⟨q_50, eq_50, h⟩ := bindS h
    have HG_51 : (q_40 = false → (decide (t_23 < 12)) = q_50) ∧ (¬ q_40 = false → true = q_50) := by
      by_cases hc : q_40 = false
      · rw [if_pos hc] at eq_50
        exact ⟨fun _ => Option.some.inj eq_50, fun k_ => absurd hc k_⟩
      · rw [if_neg hc] at eq_50
        exact ⟨fun k_ => absurd k_ hc, fun _ => Option.some.inj eq_50⟩
    obtain ⟨q_52, eq_52, h⟩ := bindS h
    obtain ⟨x_54, HG_53⟩ : ∃ (x_54 : Int) , (q_50 = false → (remI .i64 t_23 4) = some x_54 ∧ (x_54 != 0) = q_52) ∧ (¬ q_50 = false → true = q_52) := by
      by_cases hc : q_50 = false
      · rw [if_pos hc] at eq_52
        obtain ⟨x_54, ex_54, eq_52⟩ := bindS eq_52
        exact ⟨x_54, ⟨fun _ => ⟨ex_54, Option.some.inj eq_52⟩, fun k_ => absurd hc k_⟩⟩
      · rw [if_neg hc] at eq_52
        exact ⟨default, ⟨fun k_ => absurd k_ hc, fun _ => Option.some.inj eq_52⟩⟩
    obtain ⟨q_55, eq_55, h⟩ := bindS h
    obtain ⟨x_57, HG_56⟩ : ∃ (x_57 : Int) , (q_52 = false → (ckI .i64 (t_23 + 12)) = some x_57 ∧ (decide (x_57 > (lenI x0))) = q_55) ∧ (¬ q_52 = false → true = q_55) := by
      by_cases hc : q_52 = false
      · rw [if_pos hc] at eq_55
        obtain ⟨x_57, ex_57, eq_55⟩ := bindS eq_55
        exact ⟨x_57, ⟨fun _ => ⟨ex_57, Option.some.inj eq_55⟩, fun k_ => absurd hc k_⟩⟩
      · rw [if_neg hc] at eq_55
        exact ⟨default, ⟨fun k_ => absurd k_ hc, fun _ => Option.some.inj eq_55⟩⟩
    have hR : Rel (Kx K w.heap.size [some b_5, some b_1]) Bl := Bl.rel _
    refine wp_region_all hR [isRep (.sl (.int .u8)) (Kx K w.heap.size [some b_5, some b_1]) x0, isRep (.sl (.int .u8)) (Kx K w.heap.size [some b_5, some b_1]) s_32, isS s_32.xs, eqv (.bool (!(decide (s_32.xs = [78, 67, 77, 72])))), eqv (.bool (!(decide (s_32.xs = [78, 67, 77, 72])))), cndF (!(decide (s_32.xs = [78, 67, 77, 72]))) false (eqv (.func (.func 25) #[] #[.pointer (some (⟨b_1, 0, .none⟩ : Addr))])), cndF (!(decide (s_32.xs = [78, 67, 77, 72]))) false (isI .i64 t_35), cndF (!(decide (s_32.xs = [78, 67, 77, 72]))) false (eqv (.bool (t_35 != 12))), eqv (.bool q_33), eqv (.bool q_33), cndF q_33 false (eqv (.func (.func 25) #[] #[.pointer (some (⟨b_1, 0, .none⟩ : Addr))])), cndF q_33 false (isI .i64 t_42), cndF q_33 false (isRep (.sl (.int .u8)) (Kx K w.heap.size [some b_5, some b_1]) x0), cndF q_33 false (isI .i64 (lenI x0)), cndF q_33 false (eqv (.bool (t_42 != (lenI x0)))), eqv (.bool q_40), eqv (.bool q_40), cndF q_40 false (isI .i64 t_23), cndF q_40 false (eqv (.bool (decide (t_23 < 12)))), eqv (.bool q_50), eqv (.bool q_50), cndF q_50 false (isI .i64 t_23), cndF q_50 false (isI .i64 x_54), cndF q_50 false (eqv (.bool (x_54 != 0))), eqv (.bool q_52), eqv (.bool q_52), cndF q_52 false (isI .i64 t_23), cndF q_52 false (isI .i64 x_57), cndF q_52 false (isRep (.sl (.int .u8)) (Kx K w.heap.size [some b_5, some b_1]) x0), cndF q_52 false (isI .i64 (lenI x0)), cndF q_52 false (eqv (.bool (decide (x_57 > (lenI x0))))), eqv (.bool q_55)] [[], [(0, 23)], [(1, 24)], [(2, 25)], [(3, 26)], [(4, 27)], [(5, 28), (4, 27)], [(6, 29), (4, 27)], [(4, 27), (7, 30)], [(8, 31)], [(9, 32)], [(10, 33), (9, 32)], [(9, 32)], [(12, 35), (9, 32)], [(11, 34), (13, 36), (9, 32)], [(9, 32), (14, 37)], [(15, 38)], [(16, 39)], [(17, 40), (16, 39)], [(16, 39), (18, 41)], [(19, 42)], [(20, 43)], [(21, 44), (20, 43)], [(22, 45), (20, 43)], [(20, 43), (23, 46)], [(24, 47)], [(25, 48)], [(26, 49), (25, 48)], [(25, 48)], [(28, 51), (25, 48)], [(27, 50), (29, 52), (25, 48)], [(25, 48), (30, 53)]] (by kernel_rfl) (by rw [S.size]; kernel_rfl) (by kernel_rfl) (by kernel_rfl) rfl ⟨(stab_rep hR), (stab_rep hR), stab_S, (stab_eqv _), (stab_eqv _), (stab_cnd (stab_eqv _)), (stab_cnd stab_I), (stab_cnd (stab_eqv _)), (stab_eqv _), (stab_eqv _), (stab_cnd (stab_eqv _)), (stab_cnd stab_I), (stab_cnd (stab_rep hR)), (stab_cnd stab_I), (stab_cnd (stab_eqv _)), (stab_eqv _), (stab_eqv _), (stab_cnd stab_I), (stab_cnd (stab_eqv _)), (stab_eqv _), (stab_eqv _), (stab_cnd stab_I), (stab_cnd stab_I), (stab_cnd (stab_eqv _)), (stab_eqv _), (stab_eqv _), (stab_cnd stab_I), (stab_cnd stab_I), (stab_cnd (stab_rep hR)), (stab_cnd stab_I), (stab_cnd (stab_eqv _)), (stab_eqv _), trivial⟩ ?_ ?_
    ·
      refine RunAll.cons (isRep (.sl (.int .u8)) (Kx K w.heap.size [some b_5, some b_1]) x0) [] rfl rfl ?_ ?_
      · intro W_ hW
        have S1 := S
        refine fill_nil S1 ?_; clear S1; intro a_ S1
        replace B_2 := B_2.step hW
        have S0 := S.defers; replace S := S1; clear S1
        refine w_go S rfl (op_load (t := (.sl (.int .u8))) (x := x0) S rfl ty28 rfl rfl rfl B_2.at_ ?_)
        clear S; intro a v_61 R_62 S
        refine wpList_nil ?_
        exact RPost.mk_ S rfl S0 R_62 (Below.refl _ _)
      refine RunAll.cons (isRep (.sl (.int .u8)) (Kx K w.heap.size [some b_5, some b_1]) s_32) [(isRep (.sl (.int .u8)) (Kx K w.heap.size [some b_5, some b_1]) x0, 23)] rfl rfl ?_ ?_
      · intro W_ hW
        have S1 := S
        intro v_64 hF_63; replace hF_63 : RepV _ _ _ _ _ := hF_63
        replace S1 := S1.put (by decide : 23 < 184) (v_64)
        refine fill_nil S1 ?_; clear S1; intro a_ S1
        have S0 := S.defers; replace S := S1; clear S1
        refine w_go S rfl (op_slice S rfl ty28 rfl rfl rfl hF_63 (.inl ⟨rfl, rfl⟩) (.inr ⟨_, _, rfl, rfl⟩) es_32 ?_)
        clear S; intro a v_65 R_66 S
        refine wpList_nil ?_
        exact RPost.mk_ S rfl S0 R_66 (Below.refl _ _)
      refine RunAll.cons (isS s_32.xs) [(isRep (.sl (.int .u8)) (Kx K w.heap.size [some b_5, some b_1]) s_32, 24)] rfl rfl ?_ ?_
      · intro W_ hW
        have S1 := S
        intro v_68 hF_67; replace hF_67 : RepV _ _ _ _ _ := hF_67
        replace S1 := S1.put (by decide : 24 < 184) (v_68)
        refine fill_nil S1 ?_; clear S1; intro a_ S1
        replace W := W.step hW
        have S0 := S.defers; replace S := S1; clear S1
        refine w_go S rfl (op_str (K := _) S rfl ty28 ty9 rfl rfl rfl hF_67 ?_)
        clear S; intro a S
        refine wpList_nil ?_
        exact RPost.mk_ S rfl S0 ⟨rfl, hF_67.byt⟩ (Below.refl _ _)
      refine RunAll.cons (eqv (.bool (!(decide (s_32.xs = [78, 67, 77, 72]))))) [(isS s_32.xs, 25)] rfl rfl ?_ ?_
      · intro W_ hW
        have S1 := S
        rintro _ ⟨rfl, hF_69⟩
        replace S1 := S1.put (by decide : 25 < 184) (.string (strOfNums s_32.xs))
        refine fill_nil S1 ?_; clear S1; intro a_ S1
        have S0 := S.defers; replace S := S1; clear S1
        refine w_go S rfl (op_strne S rfl rfl rfl rfl (by kernel_rfl) (hF_69).1 ((strG ([78, 67, 77, 72]) (by decide) (by decide))).1 ?_)
        clear S; intro a S
        refine wpList_nil ?_
        exact RPost.mk_ S rfl S0 rfl (Below.refl _ _)
      refine RunAll.cons (eqv (.bool (!(decide (s_32.xs = [78, 67, 77, 72]))))) [(eqv (.bool (!(decide (s_32.xs = [78, 67, 77, 72])))), 26)] rfl rfl ?_ ?_
      · intro W_ hW
        have S1 := S
        intro v_72 hF_71; obtain rfl : .bool (!(decide (s_32.xs = [78, 67, 77, 72]))) = v_72 := Eq.symm hF_71
        replace S1 := S1.put (by decide : 26 < 184) (.bool (!(decide (s_32.xs = [78, 67, 77, 72]))))
        refine fill_nil S1 ?_; clear S1; intro a_ S1
        have S0 := S.defers; replace S := S1; clear S1
        refine wl_pure (l' := [(27, .bool (!(decide (s_32.xs = [78, 67, 77, 72])))), (26, .bool (!(decide (s_32.xs = [78, 67, 77, 72])))), (5, .int .i64 t_23), (4, .func (.func 25) #[] #[.pointer (some (⟨b_1, 0, .none⟩ : Addr))]), (2, .pointer (some (⟨b_5, 0, .none⟩ : Addr))), (1, .pointer (some (⟨b_1, 0, .none⟩ : Addr)))]) S tys tys_ok 1 (by kernel_rfl) ?_; clear S; intro a S
        refine wpList_nil ?_
        exact RPost.mk_ S rfl S0 rfl (Below.refl _ _)
      refine RunAll.cons (cndF (!(decide (s_32.xs = [78, 67, 77, 72]))) false (eqv (.func (.func 25) #[] #[.pointer (some (⟨b_1, 0, .none⟩ : Addr))]))) [(eqv (.bool (!(decide (s_32.xs = [78, 67, 77, 72])))), 27)] rfl rfl ?_ ?_
      · intro W_ hW
        by_cases hc0 : (!(decide (s_32.xs = [78, 67, 77, 72]))) = false
        · have hl0 : (!(decide (s_32.xs = [78, 67, 77, 72]))) = false := hc0
          have S1 := S
          intro v_74 hF_73; obtain rfl : .bool (!(decide (s_32.xs = [78, 67, 77, 72]))) = v_74 := Eq.symm hF_73
          replace S1 := S1.put (by decide : 27 < 184) (.bool (!(decide (s_32.xs = [78, 67, 77, 72]))))
          refine fill_nil S1 ?_; clear S1; intro a_ S1
          replace B_2 := B_2.step hW
          rw [show (!(decide (s_32.xs = [78, 67, 77, 72]))) = false from hl0] at S1
          have S0 := S.defers; replace S := S1; clear S1
          refine wl_pure (l' := [(28, .func (.func 25) #[] #[.pointer (some (⟨b_1, 0, .none⟩ : Addr))]), (27, .bool false), (5, .int .i64 t_23), (4, .func (.func 25) #[] #[.pointer (some (⟨b_1, 0, .none⟩ : Addr))]), (2, .pointer (some (⟨b_5, 0, .none⟩ : Addr))), (1, .pointer (some (⟨b_1, 0, .none⟩ : Addr)))]) S tys tys_ok 1 (by kernel_rfl) ?_; clear S; intro a S
          refine wpList_nil ?_
          exact RPost.mk_ S rfl S0 ⟨fun _ => rfl, fun k_ => absurd hc0 k_⟩ (Below.refl _ _)
        · have hl0 : (!(decide (s_32.xs = [78, 67, 77, 72]))) = true := (by simpa using hc0)
          have S1 := S
          intro v_76 hF_75; obtain rfl : .bool (!(decide (s_32.xs = [78, 67, 77, 72]))) = v_76 := Eq.symm hF_75
          replace S1 := S1.put (by decide : 27 < 184) (.bool (!(decide (s_32.xs = [78, 67, 77, 72]))))
          refine fill_nil S1 ?_; clear S1; intro a_ S1
          rw [show (!(decide (s_32.xs = [78, 67, 77, 72]))) = true from hl0] at S1
          have S0 := S.defers; replace S := S1; clear S1
          refine wl_pure (l' := [(28, undef), (27, .bool true), (5, .int .i64 t_23), (4, .func (.func 25) #[] #[.pointer (some (⟨b_1, 0, .none⟩ : Addr))]), (2, .pointer (some (⟨b_5, 0, .none⟩ : Addr))), (1, .pointer (some (⟨b_1, 0, .none⟩ : Addr)))]) S tys tys_ok 1 (by kernel_rfl) ?_; clear S; intro a S
          refine wpList_nil ?_
          exact RPost.mk_ S rfl S0 ⟨fun k_ => absurd k_ hc0, fun _ => rfl⟩ (Below.refl _ _)
      refine RunAll.cons (cndF (!(decide (s_32.xs = [78, 67, 77, 72]))) false (isI .i64 t_35)) [(cndF (!(decide (s_32.xs = [78, 67, 77, 72]))) false (eqv (.func (.func 25) #[] #[.pointer (some (⟨b_1, 0, .none⟩ : Addr))])), 28), (eqv (.bool (!(decide (s_32.xs = [78, 67, 77, 72])))), 27)] rfl rfl ?_ ?_
      · intro W_ hW
        by_cases hc0 : (!(decide (s_32.xs = [78, 67, 77, 72]))) = false
        · have hl0 : (!(decide (s_32.xs = [78, 67, 77, 72]))) = false := hc0
          have S1 := S
          intro v_77 hF_78
          replace hF_78 := cndF.pos hF_78 hc0
          revert hF_78
          revert v_77
          intro v_80 hF_79; obtain rfl : .func (.func 25) #[] #[.pointer (some (⟨b_1, 0, .none⟩ : Addr))] = v_80 := Eq.symm hF_79
          replace S1 := S1.put (by decide : 28 < 184) (.func (.func 25) #[] #[.pointer (some (⟨b_1, 0, .none⟩ : Addr))])
          intro v_82 hF_81; obtain rfl : .bool (!(decide (s_32.xs = [78, 67, 77, 72]))) = v_82 := Eq.symm hF_81
          replace S1 := S1.put (by decide : 27 < 184) (.bool (!(decide (s_32.xs = [78, 67, 77, 72]))))
          refine fill_nil S1 ?_; clear S1; intro a_ S1
          replace B_2 := B_2.step hW
          replace W := W.step hW
          rw [show (!(decide (s_32.xs = [78, 67, 77, 72]))) = false from hl0] at S1
          have S0 := S.defers; replace S := S1; clear S1
          obtain ⟨et_35, _⟩ := (HG_34).1 hc0
          refine w_go S rfl (op_calld (vs := [.int .i64 4]) S rfl rfl cb25 rfl rfl rfl (c25 (Kx K w.heap.size [some b_5, some b_1]) n W_ 4 (by decide) _ x0 (Bx.br B_2) et_35) ?_)
          rintro _ w_86 ⟨v_83, rfl, R_84, hb_85⟩; refine ⟨_, rfl, ?_⟩
          replace R_84 := RepV.back R_84 W
          clear S; intro a S
          obtain ⟨rfl, GR_84⟩ := RepV.int R_84
          refine wpList_nil ?_
          exact RPost.mk_ S rfl S0 ⟨fun _ => ⟨rfl, GR_84⟩, fun k_ => absurd hc0 k_⟩ (hb_85)
        · have hl0 : (!(decide (s_32.xs = [78, 67, 77, 72]))) = true := (by simpa using hc0)
          have S1 := S
          intro v_87 hF_88
          obtain rfl := cndF.neg hF_88 hc0
          replace S1 := S1.put (by decide : 28 < 184) (undef)
          intro v_90 hF_89; obtain rfl : .bool (!(decide (s_32.xs = [78, 67, 77, 72]))) = v_90 := Eq.symm hF_89
          replace S1 := S1.put (by decide : 27 < 184) (.bool (!(decide (s_32.xs = [78, 67, 77, 72]))))
          refine fill_nil S1 ?_; clear S1; intro a_ S1
          rw [show (!(decide (s_32.xs = [78, 67, 77, 72]))) = true from hl0] at S1
          have S0 := S.defers; replace S := S1; clear S1
          refine wl_pure (l' := [(29, undef), (27, .bool true), (28, undef), (5, .int .i64 t_23), (4, .func (.func 25) #[] #[.pointer (some (⟨b_1, 0, .none⟩ : Addr))]), (2, .pointer (some (⟨b_5, 0, .none⟩ : Addr))), (1, .pointer (some (⟨b_1, 0, .none⟩ : Addr)))]) S tys tys_ok 1 (by kernel_rfl) ?_; clear S; intro a S
          refine wpList_nil ?_
          exact RPost.mk_ S rfl S0 ⟨fun k_ => absurd k_ hc0, fun _ => rfl⟩ (Below.refl _ _)
      refine RunAll.cons (cndF (!(decide (s_32.xs = [78, 67, 77, 72]))) false (eqv (.bool (t_35 != 12)))) [(cndF (!(decide (s_32.xs = [78, 67, 77, 72]))) false (isI .i64 t_35), 29), (eqv (.bool (!(decide (s_32.xs = [78, 67, 77, 72])))), 27)] rfl rfl ?_ ?_
      · intro W_ hW
        by_cases hc0 : (!(decide (s_32.xs = [78, 67, 77, 72]))) = false
        · have hl0 : (!(decide (s_32.xs = [78, 67, 77, 72]))) = false := hc0
          have S1 := S
          intro v_91 hF_92
          replace hF_92 := cndF.pos hF_92 hc0
          revert hF_92
          revert v_91
          rintro _ ⟨rfl, hF_93⟩
          replace S1 := S1.put (by decide : 29 < 184) (.int .i64 t_35)
          intro v_96 hF_95; obtain rfl : .bool (!(decide (s_32.xs = [78, 67, 77, 72]))) = v_96 := Eq.symm hF_95
          replace S1 := S1.put (by decide : 27 < 184) (.bool (!(decide (s_32.xs = [78, 67, 77, 72]))))
          refine fill_nil S1 ?_; clear S1; intro a_ S1
          rw [show (!(decide (s_32.xs = [78, 67, 77, 72]))) = false from hl0] at S1
          have S0 := S.defers; replace S := S1; clear S1
          refine wl_pure (l' := [(30, .bool (t_35 != 12)), (27, .bool false), (29, .int .i64 t_35), (5, .int .i64 t_23), (4, .func (.func 25) #[] #[.pointer (some (⟨b_1, 0, .none⟩ : Addr))]), (2, .pointer (some (⟨b_5, 0, .none⟩ : Addr))), (1, .pointer (some (⟨b_1, 0, .none⟩ : Addr)))]) S tys tys_ok 1 (by kernel_rfl) ?_; clear S; intro a S
          refine wpList_nil ?_
          exact RPost.mk_ S rfl S0 ⟨fun _ => rfl, fun k_ => absurd hc0 k_⟩ (Below.refl _ _)
        · have hl0 : (!(decide (s_32.xs = [78, 67, 77, 72]))) = true := (by simpa using hc0)
          have S1 := S
          intro v_97 hF_98
          obtain rfl := cndF.neg hF_98 hc0
          replace S1 := S1.put (by decide : 29 < 184) (undef)
          intro v_100 hF_99; obtain rfl : .bool (!(decide (s_32.xs = [78, 67, 77, 72]))) = v_100 := Eq.symm hF_99
          replace S1 := S1.put (by decide : 27 < 184) (.bool (!(decide (s_32.xs = [78, 67, 77, 72]))))
          refine fill_nil S1 ?_; clear S1; intro a_ S1
          rw [show (!(decide (s_32.xs = [78, 67, 77, 72]))) = true from hl0] at S1
          have S0 := S.defers; replace S := S1; clear S1
          refine wl_pure (l' := [(30, undef), (27, .bool true), (29, undef), (5, .int .i64 t_23), (4, .func (.func 25) #[] #[.pointer (some (⟨b_1, 0, .none⟩ : Addr))]), (2, .pointer (some (⟨b_5, 0, .none⟩ : Addr))), (1, .pointer (some (⟨b_1, 0, .none⟩ : Addr)))]) S tys tys_ok 1 (by kernel_rfl) ?_; clear S; intro a S
          refine wpList_nil ?_
          exact RPost.mk_ S rfl S0 ⟨fun k_ => absurd k_ hc0, fun _ => rfl⟩ (Below.refl _ _)
      refine RunAll.cons (eqv (.bool q_33)) [(eqv (.bool (!(decide (s_32.xs = [78, 67, 77, 72])))), 27), (cndF (!(decide (s_32.xs = [78, 67, 77, 72]))) false (eqv (.bool (t_35 != 12))), 30)] rfl rfl ?_ ?_
      · intro W_ hW
        by_cases hc0 : (!(decide (s_32.xs = [78, 67, 77, 72]))) = false
        · have hl0 : (!(decide (s_32.xs = [78, 67, 77, 72]))) = false := hc0
          have S1 := S
          intro v_102 hF_101; obtain rfl : .bool (!(decide (s_32.xs = [78, 67, 77, 72]))) = v_102 := Eq.symm hF_101
          replace S1 := S1.put (by decide : 27 < 184) (.bool (!(decide (s_32.xs = [78, 67, 77, 72]))))
          intro v_103 hF_104
          replace hF_104 := cndF.pos hF_104 hc0
          revert hF_104
          revert v_103
          intro v_106 hF_105; obtain rfl : .bool (t_35 != 12) = v_106 := Eq.symm hF_105
          replace S1 := S1.put (by decide : 30 < 184) (.bool (t_35 != 12))
          refine fill_nil S1 ?_; clear S1; intro a_ S1
          rw [show (!(decide (s_32.xs = [78, 67, 77, 72]))) = false from hl0] at S1
          have S0 := S.defers; replace S := S1; clear S1
          refine wl_pure (l' := [(31, .bool (t_35 != 12)), (30, .bool (t_35 != 12)), (27, .bool false), (5, .int .i64 t_23), (4, .func (.func 25) #[] #[.pointer (some (⟨b_1, 0, .none⟩ : Addr))]), (2, .pointer (some (⟨b_5, 0, .none⟩ : Addr))), (1, .pointer (some (⟨b_1, 0, .none⟩ : Addr)))]) S tys tys_ok 1 (by kernel_rfl) ?_; clear S; intro a S
          refine wpList_nil ?_
          exact RPost.mk_ S rfl S0 (congrArg Value.bool ((HG_34).1 hc0).2) (Below.refl _ _)
        · have hl0 : (!(decide (s_32.xs = [78, 67, 77, 72]))) = true := (by simpa using hc0)
          have S1 := S
          intro v_108 hF_107; obtain rfl : .bool (!(decide (s_32.xs = [78, 67, 77, 72]))) = v_108 := Eq.symm hF_107
          replace S1 := S1.put (by decide : 27 < 184) (.bool (!(decide (s_32.xs = [78, 67, 77, 72]))))
          intro v_109 hF_110
          obtain rfl := cndF.neg hF_110 hc0
          replace S1 := S1.put (by decide : 30 < 184) (undef)
          refine fill_nil S1 ?_; clear S1; intro a_ S1
          rw [show (!(decide (s_32.xs = [78, 67, 77, 72]))) = true from hl0] at S1
          have S0 := S.defers; replace S := S1; clear S1
          refine wl_pure (l' := [(31, .bool true), (30, undef), (27, .bool true), (5, .int .i64 t_23), (4, .func (.func 25) #[] #[.pointer (some (⟨b_1, 0, .none⟩ : Addr))]), (2, .pointer (some (⟨b_5, 0, .none⟩ : Addr))), (1, .pointer (some (⟨b_1, 0, .none⟩ : Addr)))]) S tys tys_ok 1 (by kernel_rfl) ?_; clear S; intro a S
          refine wpList_nil ?_
          exact RPost.mk_ S rfl S0 (congrArg Value.bool ((HG_34).2 hc0)) (Below.refl _ _)
      refine RunAll.cons (eqv (.bool q_33)) [(eqv (.bool q_33), 31)] rfl rfl ?_ ?_
      · intro W_ hW
        have S1 := S
        intro v_112 hF_111; obtain rfl : .bool q_33 = v_112 := Eq.symm hF_111
        replace S1 := S1.put (by decide : 31 < 184) (.bool q_33)
        refine fill_nil S1 ?_; clear S1; intro a_ S1
        have S0 := S.defers; replace S := S1; clear S1
        refine wl_pure (l' := [(32, .bool q_33), (31, .bool q_33), (5, .int .i64 t_23), (4, .func (.func 25) #[] #[.pointer (some (⟨b_1, 0, .none⟩ : Addr))]), (2, .pointer (some (⟨b_5, 0, .none⟩ : Addr))), (1, .pointer (some (⟨b_1, 0, .none⟩ : Addr)))]) S tys tys_ok 1 (by kernel_rfl) ?_; clear S; intro a S
        refine wpList_nil ?_
        exact RPost.mk_ S rfl S0 rfl (Below.refl _ _)
      refine RunAll.cons (cndF q_33 false (eqv (.func (.func 25) #[] #[.pointer (some (⟨b_1, 0, .none⟩ : Addr))]))) [(eqv (.bool q_33), 32)] rfl rfl ?_ ?_
      · intro W_ hW
        by_cases hc1 : q_33 = false
        · have hl1 : q_33 = false := hc1
          have S1 := S
          intro v_114 hF_113; obtain rfl : .bool q_33 = v_114 := Eq.symm hF_113
          replace S1 := S1.put (by decide : 32 < 184) (.bool q_33)
          refine fill_nil S1 ?_; clear S1; intro a_ S1
          replace B_2 := B_2.step hW
          rw [show q_33 = false from hl1] at S1
          have S0 := S.defers; replace S := S1; clear S1
          refine wl_pure (l' := [(33, .func (.func 25) #[] #[.pointer (some (⟨b_1, 0, .none⟩ : Addr))]), (32, .bool false), (5, .int .i64 t_23), (4, .func (.func 25) #[] #[.pointer (some (⟨b_1, 0, .none⟩ : Addr))]), (2, .pointer (some (⟨b_5, 0, .none⟩ : Addr))), (1, .pointer (some (⟨b_1, 0, .none⟩ : Addr)))]) S tys tys_ok 1 (by kernel_rfl) ?_; clear S; intro a S
          refine wpList_nil ?_
          exact RPost.mk_ S rfl S0 ⟨fun _ => rfl, fun k_ => absurd hc1 k_⟩ (Below.refl _ _)
        · have hl1 : q_33 = true := (by simpa using hc1)
          have S1 := S
          intro v_116 hF_115; obtain rfl : .bool q_33 = v_116 := Eq.symm hF_115
          replace S1 := S1.put (by decide : 32 < 184) (.bool q_33)
          refine fill_nil S1 ?_; clear S1; intro a_ S1
          rw [show q_33 = true from hl1] at S1
          have S0 := S.defers; replace S := S1; clear S1
          refine wl_pure (l' := [(33, undef), (32, .bool true), (5, .int .i64 t_23), (4, .func (.func 25) #[] #[.pointer (some (⟨b_1, 0, .none⟩ : Addr))]), (2, .pointer (some (⟨b_5, 0, .none⟩ : Addr))), (1, .pointer (some (⟨b_1, 0, .none⟩ : Addr)))]) S tys tys_ok 1 (by kernel_rfl) ?_; clear S; intro a S
          refine wpList_nil ?_
          exact RPost.mk_ S rfl S0 ⟨fun k_ => absurd k_ hc1, fun _ => rfl⟩ (Below.refl _ _)
      refine RunAll.cons (cndF q_33 false (isI .i64 t_42)) [(cndF q_33 false (eqv (.func (.func 25) #[] #[.pointer (some (⟨b_1, 0, .none⟩ : Addr))])), 33), (eqv (.bool q_33), 32)] rfl rfl ?_ ?_
      · intro W_ hW
        by_cases hc1 : q_33 = false
        · have hl1 : q_33 = false := hc1
          have S1 := S
          intro v_117 hF_118
          replace hF_118 := cndF.pos hF_118 hc1
          revert hF_118
          revert v_117
          intro v_120 hF_119; obtain rfl : .func (.func 25) #[] #[.pointer (some (⟨b_1, 0, .none⟩ : Addr))] = v_120 := Eq.symm hF_119
          replace S1 := S1.put (by decide : 33 < 184) (.func (.func 25) #[] #[.pointer (some (⟨b_1, 0, .none⟩ : Addr))])
          intro v_122 hF_121; obtain rfl : .bool q_33 = v_122 := Eq.symm hF_121
          replace S1 := S1.put (by decide : 32 < 184) (.bool q_33)
          refine fill_nil S1 ?_; clear S1; intro a_ S1
          replace B_2 := B_2.step hW
          replace W := W.step hW
          rw [show q_33 = false from hl1] at S1
          have S0 := S.defers; replace S := S1; clear S1
          obtain ⟨et_42, _⟩ := (HG_41).1 hc1
          refine w_go S rfl (op_calld (vs := [.int .i64 8]) S rfl rfl cb25 rfl rfl rfl (c25 (Kx K w.heap.size [some b_5, some b_1]) n W_ 8 (by decide) _ x0 (Bx.br B_2) et_42) ?_)
          rintro _ w_126 ⟨v_123, rfl, R_124, hb_125⟩; refine ⟨_, rfl, ?_⟩
          replace R_124 := RepV.back R_124 W
          clear S; intro a S
          obtain ⟨rfl, GR_124⟩ := RepV.int R_124
          refine wpList_nil ?_
          exact RPost.mk_ S rfl S0 ⟨fun _ => ⟨rfl, GR_124⟩, fun k_ => absurd hc1 k_⟩ (hb_125)
        · have hl1 : q_33 = true := (by simpa using hc1)
          have S1 := S
          intro v_127 hF_128
          obtain rfl := cndF.neg hF_128 hc1
          replace S1 := S1.put (by decide : 33 < 184) (undef)
          intro v_130 hF_129; obtain rfl : .bool q_33 = v_130 := Eq.symm hF_129
          replace S1 := S1.put (by decide : 32 < 184) (.bool q_33)
          refine fill_nil S1 ?_; clear S1; intro a_ S1
          rw [show q_33 = true from hl1] at S1
          have S0 := S.defers; replace S := S1; clear S1
          refine wl_pure (l' := [(34, undef), (32, .bool true), (33, undef), (5, .int .i64 t_23), (4, .func (.func 25) #[] #[.pointer (some (⟨b_1, 0, .none⟩ : Addr))]), (2, .pointer (some (⟨b_5, 0, .none⟩ : Addr))), (1, .pointer (some (⟨b_1, 0, .none⟩ : Addr)))]) S tys tys_ok 1 (by kernel_rfl) ?_; clear S; intro a S
          refine wpList_nil ?_
          exact RPost.mk_ S rfl S0 ⟨fun k_ => absurd k_ hc1, fun _ => rfl⟩ (Below.refl _ _)
      refine RunAll.cons (cndF q_33 false (isRep (.sl (.int .u8)) (Kx K w.heap.size [some b_5, some b_1]) x0)) [(eqv (.bool q_33), 32)] rfl rfl ?_ ?_
      · intro W_ hW
        by_cases hc1 : q_33 = false
        · have hl1 : q_33 = false := hc1
          have S1 := S
          intro v_132 hF_131; obtain rfl : .bool q_33 = v_132 := Eq.symm hF_131
          replace S1 := S1.put (by decide : 32 < 184) (.bool q_33)
          refine fill_nil S1 ?_; clear S1; intro a_ S1
          replace B_2 := B_2.step hW
          rw [show q_33 = false from hl1] at S1
          have S0 := S.defers; replace S := S1; clear S1
          obtain ⟨et_42, _⟩ := (HG_41).1 hc1
          refine w_go S rfl (op_load (t := (.sl (.int .u8))) (x := x0) S rfl ty28 rfl rfl rfl B_2.at_ ?_)
          clear S; intro a v_133 R_134 S
          refine wpList_nil ?_
          exact RPost.mk_ S rfl S0 ⟨fun _ => R_134, fun k_ => absurd hc1 k_⟩ (Below.refl _ _)
        · have hl1 : q_33 = true := (by simpa using hc1)
          have S1 := S
          intro v_136 hF_135; obtain rfl : .bool q_33 = v_136 := Eq.symm hF_135
          replace S1 := S1.put (by decide : 32 < 184) (.bool q_33)
          refine fill_nil S1 ?_; clear S1; intro a_ S1
          rw [show q_33 = true from hl1] at S1
          have S0 := S.defers; replace S := S1; clear S1
          refine wl_pure (l' := [(35, undef), (32, .bool true), (5, .int .i64 t_23), (4, .func (.func 25) #[] #[.pointer (some (⟨b_1, 0, .none⟩ : Addr))]), (2, .pointer (some (⟨b_5, 0, .none⟩ : Addr))), (1, .pointer (some (⟨b_1, 0, .none⟩ : Addr)))]) S tys tys_ok 1 (by kernel_rfl) ?_; clear S; intro a S
          refine wpList_nil ?_
          exact RPost.mk_ S rfl S0 ⟨fun k_ => absurd k_ hc1, fun _ => rfl⟩ (Below.refl _ _)
      refine RunAll.cons (cndF q_33 false (isI .i64 (lenI x0))) [(cndF q_33 false (isRep (.sl (.int .u8)) (Kx K w.heap.size [some b_5, some b_1]) x0), 35), (eqv (.bool q_33), 32)] rfl rfl ?_ ?_
      · intro W_ hW
        by_cases hc1 : q_33 = false
        · have hl1 : q_33 = false := hc1
          have S1 := S
          intro v_137 hF_138
          replace hF_138 := cndF.pos hF_138 hc1
          revert hF_138
          revert v_137
          intro v_140 hF_139; replace hF_139 : RepV _ _ _ _ _ := hF_139
          replace S1 := S1.put (by decide : 35 < 184) (v_140)
          intro v_142 hF_141; obtain rfl : .bool q_33 = v_142 := Eq.symm hF_141
          replace S1 := S1.put (by decide : 32 < 184) (.bool q_33)
          refine fill_nil S1 ?_; clear S1; intro a_ S1
          replace W := W.step hW
          rw [show q_33 = false from hl1] at S1
          have S0 := S.defers; replace S := S1; clear S1
          obtain ⟨et_42, _⟩ := (HG_41).1 hc1
          refine w_go S rfl (op_len (K := _) S rfl ty28 rfl rfl rfl hF_139 ?_)
          clear S; intro a G_143 S
          refine wpList_nil ?_
          exact RPost.mk_ S rfl S0 ⟨fun _ => ⟨rfl, G_143⟩, fun k_ => absurd hc1 k_⟩ (Below.refl _ _)
        · have hl1 : q_33 = true := (by simpa using hc1)
          have S1 := S
          intro v_144 hF_145
          obtain rfl := cndF.neg hF_145 hc1
          replace S1 := S1.put (by decide : 35 < 184) (undef)
          intro v_147 hF_146; obtain rfl : .bool q_33 = v_147 := Eq.symm hF_146
          replace S1 := S1.put (by decide : 32 < 184) (.bool q_33)
          refine fill_nil S1 ?_; clear S1; intro a_ S1
          rw [show q_33 = true from hl1] at S1
          have S0 := S.defers; replace S := S1; clear S1
          refine wl_pure (l' := [(36, undef), (32, .bool true), (35, undef), (5, .int .i64 t_23), (4, .func (.func 25) #[] #[.pointer (some (⟨b_1, 0, .none⟩ : Addr))]), (2, .pointer (some (⟨b_5, 0, .none⟩ : Addr))), (1, .pointer (some (⟨b_1, 0, .none⟩ : Addr)))]) S tys tys_ok 1 (by kernel_rfl) ?_; clear S; intro a S
          refine wpList_nil ?_
          exact RPost.mk_ S rfl S0 ⟨fun k_ => absurd k_ hc1, fun _ => rfl⟩ (Below.refl _ _)
      refine RunAll.cons (cndF q_33 false (eqv (.bool (t_42 != (lenI x0))))) [(cndF q_33 false (isI .i64 t_42), 34), (cndF q_33 false (isI .i64 (lenI x0)), 36), (eqv (.bool q_33), 32)] rfl rfl ?_ ?_
      · intro W_ hW
        by_cases hc1 : q_33 = false
        · have hl1 : q_33 = false := hc1
          have S1 := S
          intro v_148 hF_149
          replace hF_149 := cndF.pos hF_149 hc1
          revert hF_149
          revert v_148
          rintro _ ⟨rfl, hF_150⟩
          replace S1 := S1.put (by decide : 34 < 184) (.int .i64 t_42)
          intro v_152 hF_153
          replace hF_153 := cndF.pos hF_153 hc1
          revert hF_153
          revert v_152
          rintro _ ⟨rfl, hF_154⟩
          replace S1 := S1.put (by decide : 36 < 184) (.int .i64 (lenI x0))
          intro v_157 hF_156; obtain rfl : .bool q_33 = v_157 := Eq.symm hF_156
          replace S1 := S1.put (by decide : 32 < 184) (.bool q_33)
          refine fill_nil S1 ?_; clear S1; intro a_ S1
          rw [show q_33 = false from hl1] at S1
          have S0 := S.defers; replace S := S1; clear S1
          refine wl_pure (l' := [(37, .bool (t_42 != (lenI x0))), (32, .bool false), (36, .int .i64 (lenI x0)), (34, .int .i64 t_42), (5, .int .i64 t_23), (4, .func (.func 25) #[] #[.pointer (some (⟨b_1, 0, .none⟩ : Addr))]), (2, .pointer (some (⟨b_5, 0, .none⟩ : Addr))), (1, .pointer (some (⟨b_1, 0, .none⟩ : Addr)))]) S tys tys_ok 1 (by kernel_rfl) ?_; clear S; intro a S
          refine wpList_nil ?_
          exact RPost.mk_ S rfl S0 ⟨fun _ => rfl, fun k_ => absurd hc1 k_⟩ (Below.refl _ _)
        · have hl1 : q_33 = true := (by simpa using hc1)
          have S1 := S
          intro v_158 hF_159
          obtain rfl := cndF.neg hF_159 hc1
          replace S1 := S1.put (by decide : 34 < 184) (undef)
          intro v_160 hF_161
          obtain rfl := cndF.neg hF_161 hc1
          replace S1 := S1.put (by decide : 36 < 184) (undef)
          intro v_163 hF_162; obtain rfl : .bool q_33 = v_163 := Eq.symm hF_162
          replace S1 := S1.put (by decide : 32 < 184) (.bool q_33)
          refine fill_nil S1 ?_; clear S1; intro a_ S1
          rw [show q_33 = true from hl1] at S1
          have S0 := S.defers; replace S := S1; clear S1
          refine wl_pure (l' := [(37, undef), (32, .bool true), (36, undef), (34, undef), (5, .int .i64 t_23), (4, .func (.func 25) #[] #[.pointer (some (⟨b_1, 0, .none⟩ : Addr))]), (2, .pointer (some (⟨b_5, 0, .none⟩ : Addr))), (1, .pointer (some (⟨b_1, 0, .none⟩ : Addr)))]) S tys tys_ok 1 (by kernel_rfl) ?_; clear S; intro a S
          refine wpList_nil ?_
          exact RPost.mk_ S rfl S0 ⟨fun k_ => absurd k_ hc1, fun _ => rfl⟩ (Below.refl _ _)
      refine RunAll.cons (eqv (.bool q_40)) [(eqv (.bool q_33), 32), (cndF q_33 false (eqv (.bool (t_42 != (lenI x0)))), 37)] rfl rfl ?_ ?_
      · intro W_ hW
        by_cases hc1 : q_33 = false
        · have hl1 : q_33 = false := hc1
          have S1 := S
          intro v_165 hF_164; obtain rfl : .bool q_33 = v_165 := Eq.symm hF_164
          replace S1 := S1.put (by decide : 32 < 184) (.bool q_33)
          intro v_166 hF_167
          replace hF_167 := cndF.pos hF_167 hc1
          revert hF_167
          revert v_166
          intro v_169 hF_168; obtain rfl : .bool (t_42 != (lenI x0)) = v_169 := Eq.symm hF_168
          replace S1 := S1.put (by decide : 37 < 184) (.bool (t_42 != (lenI x0)))
          refine fill_nil S1 ?_; clear S1; intro a_ S1
          rw [show q_33 = false from hl1] at S1
          have S0 := S.defers; replace S := S1; clear S1
          refine wl_pure (l' := [(38, .bool (t_42 != (lenI x0))), (37, .bool (t_42 != (lenI x0))), (32, .bool false), (5, .int .i64 t_23), (4, .func (.func 25) #[] #[.pointer (some (⟨b_1, 0, .none⟩ : Addr))]), (2, .pointer (some (⟨b_5, 0, .none⟩ : Addr))), (1, .pointer (some (⟨b_1, 0, .none⟩ : Addr)))]) S tys tys_ok 1 (by kernel_rfl) ?_; clear S; intro a S
          refine wpList_nil ?_
          exact RPost.mk_ S rfl S0 (congrArg Value.bool ((HG_41).1 hc1).2) (Below.refl _ _)
        · have hl1 : q_33 = true := (by simpa using hc1)
          have S1 := S
          intro v_171 hF_170; obtain rfl : .bool q_33 = v_171 := Eq.symm hF_170
          replace S1 := S1.put (by decide : 32 < 184) (.bool q_33)
          intro v_172 hF_173
          obtain rfl := cndF.neg hF_173 hc1
          replace S1 := S1.put (by decide : 37 < 184) (undef)
          refine fill_nil S1 ?_; clear S1; intro a_ S1
          rw [show q_33 = true from hl1] at S1
          have S0 := S.defers; replace S := S1; clear S1
          refine wl_pure (l' := [(38, .bool true), (37, undef), (32, .bool true), (5, .int .i64 t_23), (4, .func (.func 25) #[] #[.pointer (some (⟨b_1, 0, .none⟩ : Addr))]), (2, .pointer (some (⟨b_5, 0, .none⟩ : Addr))), (1, .pointer (some (⟨b_1, 0, .none⟩ : Addr)))]) S tys tys_ok 1 (by kernel_rfl) ?_; clear S; intro a S
          refine wpList_nil ?_
          exact RPost.mk_ S rfl S0 (congrArg Value.bool ((HG_41).2 hc1)) (Below.refl _ _)
      refine RunAll.cons (eqv (.bool q_40)) [(eqv (.bool q_40), 38)] rfl rfl ?_ ?_
      · intro W_ hW
        have S1 := S
        intro v_175 hF_174; obtain rfl : .bool q_40 = v_175 := Eq.symm hF_174
        replace S1 := S1.put (by decide : 38 < 184) (.bool q_40)
        refine fill_nil S1 ?_; clear S1; intro a_ S1
        have S0 := S.defers; replace S := S1; clear S1
        refine wl_pure (l' := [(39, .bool q_40), (38, .bool q_40), (5, .int .i64 t_23), (4, .func (.func 25) #[] #[.pointer (some (⟨b_1, 0, .none⟩ : Addr))]), (2, .pointer (some (⟨b_5, 0, .none⟩ : Addr))), (1, .pointer (some (⟨b_1, 0, .none⟩ : Addr)))]) S tys tys_ok 1 (by kernel_rfl) ?_; clear S; intro a S
        refine wpList_nil ?_
        exact RPost.mk_ S rfl S0 rfl (Below.refl _ _)
      refine RunAll.cons (cndF q_40 false (isI .i64 t_23)) [(eqv (.bool q_40), 39)] rfl rfl ?_ ?_
      · intro W_ hW
        by_cases hc2 : q_40 = false
        · have hl2 : q_40 = false := hc2
          have S1 := S
          intro v_177 hF_176; obtain rfl : .bool q_40 = v_177 := Eq.symm hF_176
          replace S1 := S1.put (by decide : 39 < 184) (.bool q_40)
          refine fill_nil S1 ?_; clear S1; intro a_ S1
          rw [show q_40 = false from hl2] at S1
          have S0 := S.defers; replace S := S1; clear S1
          refine wl_pure (l' := [(40, .int .i64 t_23), (39, .bool false), (5, .int .i64 t_23), (4, .func (.func 25) #[] #[.pointer (some (⟨b_1, 0, .none⟩ : Addr))]), (2, .pointer (some (⟨b_5, 0, .none⟩ : Addr))), (1, .pointer (some (⟨b_1, 0, .none⟩ : Addr)))]) S tys tys_ok 1 (by kernel_rfl) ?_; clear S; intro a S
          refine wpList_nil ?_
          exact RPost.mk_ S rfl S0 ⟨fun _ => ⟨rfl, GR_25⟩, fun k_ => absurd hc2 k_⟩ (Below.refl _ _)
        · have hl2 : q_40 = true := (by simpa using hc2)
          have S1 := S
          intro v_179 hF_178; obtain rfl : .bool q_40 = v_179 := Eq.symm hF_178
          replace S1 := S1.put (by decide : 39 < 184) (.bool q_40)
          refine fill_nil S1 ?_; clear S1; intro a_ S1
          rw [show q_40 = true from hl2] at S1
          have S0 := S.defers; replace S := S1; clear S1
          refine wl_pure (l' := [(40, undef), (39, .bool true), (5, .int .i64 t_23), (4, .func (.func 25) #[] #[.pointer (some (⟨b_1, 0, .none⟩ : Addr))]), (2, .pointer (some (⟨b_5, 0, .none⟩ : Addr))), (1, .pointer (some (⟨b_1, 0, .none⟩ : Addr)))]) S tys tys_ok 1 (by kernel_rfl) ?_; clear S; intro a S
          refine wpList_nil ?_
          exact RPost.mk_ S rfl S0 ⟨fun k_ => absurd k_ hc2, fun _ => rfl⟩ (Below.refl _ _)
      refine RunAll.cons (cndF q_40 false (eqv (.bool (decide (t_23 < 12))))) [(cndF q_40 false (isI .i64 t_23), 40), (eqv (.bool q_40), 39)] rfl rfl ?_ ?_
      · intro W_ hW
        by_cases hc2 : q_40 = false
        · have hl2 : q_40 = false := hc2
          have S1 := S
          intro v_180 hF_181
          replace hF_181 := cndF.pos hF_181 hc2
          revert hF_181
          revert v_180
          rintro _ ⟨rfl, hF_182⟩
          replace S1 := S1.put (by decide : 40 < 184) (.int .i64 t_23)
          intro v_185 hF_184; obtain rfl : .bool q_40 = v_185 := Eq.symm hF_184
          replace S1 := S1.put (by decide : 39 < 184) (.bool q_40)
          refine fill_nil S1 ?_; clear S1; intro a_ S1
          rw [show q_40 = false from hl2] at S1
          have S0 := S.defers; replace S := S1; clear S1
          refine wl_pure (l' := [(41, .bool (decide (t_23 < 12))), (39, .bool false), (40, .int .i64 t_23), (5, .int .i64 t_23), (4, .func (.func 25) #[] #[.pointer (some (⟨b_1, 0, .none⟩ : Addr))]), (2, .pointer (some (⟨b_5, 0, .none⟩ : Addr))), (1, .pointer (some (⟨b_1, 0, .none⟩ : Addr)))]) S tys tys_ok 1 (by kernel_rfl) ?_; clear S; intro a S
          refine wpList_nil ?_
          exact RPost.mk_ S rfl S0 ⟨fun _ => rfl, fun k_ => absurd hc2 k_⟩ (Below.refl _ _)
        · have hl2 : q_40 = true := (by simpa using hc2)
          have S1 := S
          intro v_186 hF_187
          obtain rfl := cndF.neg hF_187 hc2
          replace S1 := S1.put (by decide : 40 < 184) (undef)
          intro v_189 hF_188; obtain rfl : .bool q_40 = v_189 := Eq.symm hF_188
          replace S1 := S1.put (by decide : 39 < 184) (.bool q_40)
          refine fill_nil S1 ?_; clear S1; intro a_ S1
          rw [show q_40 = true from hl2] at S1
          have S0 := S.defers; replace S := S1; clear S1
          refine wl_pure (l' := [(41, undef), (39, .bool true), (40, undef), (5, .int .i64 t_23), (4, .func (.func 25) #[] #[.pointer (some (⟨b_1, 0, .none⟩ : Addr))]), (2, .pointer (some (⟨b_5, 0, .none⟩ : Addr))), (1, .pointer (some (⟨b_1, 0, .none⟩ : Addr)))]) S tys tys_ok 1 (by kernel_rfl) ?_; clear S; intro a S
          refine wpList_nil ?_
          exact RPost.mk_ S rfl S0 ⟨fun k_ => absurd k_ hc2, fun _ => rfl⟩ (Below.refl _ _)
      refine RunAll.cons (eqv (.bool q_50)) [(eqv (.bool q_40), 39), (cndF q_40 false (eqv (.bool (decide (t_23 < 12)))), 41)] rfl rfl ?_ ?_
      · intro W_ hW
        by_cases hc2 : q_40 = false
        · have hl2 : q_40 = false := hc2
          have S1 := S
          intro v_191 hF_190; obtain rfl : .bool q_40 = v_191 := Eq.symm hF_190
          replace S1 := S1.put (by decide : 39 < 184) (.bool q_40)
          intro v_192 hF_193
          replace hF_193 := cndF.pos hF_193 hc2
          revert hF_193
          revert v_192
          intro v_195 hF_194; obtain rfl : .bool (decide (t_23 < 12)) = v_195 := Eq.symm hF_194
          replace S1 := S1.put (by decide : 41 < 184) (.bool (decide (t_23 < 12)))
          refine fill_nil S1 ?_; clear S1; intro a_ S1
          rw [show q_40 = false from hl2] at S1
          have S0 := S.defers; replace S := S1; clear S1
          refine wl_pure (l' := [(42, .bool (decide (t_23 < 12))), (41, .bool (decide (t_23 < 12))), (39, .bool false), (5, .int .i64 t_23), (4, .func (.func 25) #[] #[.pointer (some (⟨b_1, 0, .none⟩ : Addr))]), (2, .pointer (some (⟨b_5, 0, .none⟩ : Addr))), (1, .pointer (some (⟨b_1, 0, .none⟩ : Addr)))]) S tys tys_ok 1 (by kernel_rfl) ?_; clear S; intro a S
          refine wpList_nil ?_
          exact RPost.mk_ S rfl S0 (congrArg Value.bool ((HG_51).1 hc2)) (Below.refl _ _)
        · have hl2 : q_40 = true := (by simpa using hc2)
          have S1 := S
          intro v_197 hF_196; obtain rfl : .bool q_40 = v_197 := Eq.symm hF_196
          replace S1 := S1.put (by decide : 39 < 184) (.bool q_40)
          intro v_198 hF_199
          obtain rfl := cndF.neg hF_199 hc2
          replace S1 := S1.put (by decide : 41 < 184) (undef)
          refine fill_nil S1 ?_; clear S1; intro a_ S1
          rw [show q_40 = true from hl2] at S1
          have S0 := S.defers; replace S := S1; clear S1
          refine wl_pure (l' := [(42, .bool true), (41, undef), (39, .bool true), (5, .int .i64 t_23), (4, .func (.func 25) #[] #[.pointer (some (⟨b_1, 0, .none⟩ : Addr))]), (2, .pointer (some (⟨b_5, 0, .none⟩ : Addr))), (1, .pointer (some (⟨b_1, 0, .none⟩ : Addr)))]) S tys tys_ok 1 (by kernel_rfl) ?_; clear S; intro a S
          refine wpList_nil ?_
          exact RPost.mk_ S rfl S0 (congrArg Value.bool ((HG_51).2 hc2)) (Below.refl _ _)
      refine RunAll.cons (eqv (.bool q_50)) [(eqv (.bool q_50), 42)] rfl rfl ?_ ?_
      · intro W_ hW
        have S1 := S
        intro v_201 hF_200; obtain rfl : .bool q_50 = v_201 := Eq.symm hF_200
        replace S1 := S1.put (by decide : 42 < 184) (.bool q_50)
        refine fill_nil S1 ?_; clear S1; intro a_ S1
        have S0 := S.defers; replace S := S1; clear S1
        refine wl_pure (l' := [(43, .bool q_50), (42, .bool q_50), (5, .int .i64 t_23), (4, .func (.func 25) #[] #[.pointer (some (⟨b_1, 0, .none⟩ : Addr))]), (2, .pointer (some (⟨b_5, 0, .none⟩ : Addr))), (1, .pointer (some (⟨b_1, 0, .none⟩ : Addr)))]) S tys tys_ok 1 (by kernel_rfl) ?_; clear S; intro a S
        refine wpList_nil ?_
        exact RPost.mk_ S rfl S0 rfl (Below.refl _ _)
      refine RunAll.cons (cndF q_50 false (isI .i64 t_23)) [(eqv (.bool q_50), 43)] rfl rfl ?_ ?_
      · intro W_ hW
        by_cases hc3 : q_50 = false
        · have hl3 : q_50 = false := hc3
          have S1 := S
          intro v_203 hF_202; obtain rfl : .bool q_50 = v_203 := Eq.symm hF_202
          replace S1 := S1.put (by decide : 43 < 184) (.bool q_50)
          refine fill_nil S1 ?_; clear S1; intro a_ S1
          rw [show q_50 = false from hl3] at S1
          have S0 := S.defers; replace S := S1; clear S1
          refine wl_pure (l' := [(44, .int .i64 t_23), (43, .bool false), (5, .int .i64 t_23), (4, .func (.func 25) #[] #[.pointer (some (⟨b_1, 0, .none⟩ : Addr))]), (2, .pointer (some (⟨b_5, 0, .none⟩ : Addr))), (1, .pointer (some (⟨b_1, 0, .none⟩ : Addr)))]) S tys tys_ok 1 (by kernel_rfl) ?_; clear S; intro a S
          refine wpList_nil ?_
          exact RPost.mk_ S rfl S0 ⟨fun _ => ⟨rfl, GR_25⟩, fun k_ => absurd hc3 k_⟩ (Below.refl _ _)
        · have hl3 : q_50 = true := (by simpa using hc3)
          have S1 := S
          intro v_205 hF_204; obtain rfl : .bool q_50 = v_205 := Eq.symm hF_204
          replace S1 := S1.put (by decide : 43 < 184) (.bool q_50)
          refine fill_nil S1 ?_; clear S1; intro a_ S1
          rw [show q_50 = true from hl3] at S1
          have S0 := S.defers; replace S := S1; clear S1
          refine wl_pure (l' := [(44, undef), (43, .bool true), (5, .int .i64 t_23), (4, .func (.func 25) #[] #[.pointer (some (⟨b_1, 0, .none⟩ : Addr))]), (2, .pointer (some (⟨b_5, 0, .none⟩ : Addr))), (1, .pointer (some (⟨b_1, 0, .none⟩ : Addr)))]) S tys tys_ok 1 (by kernel_rfl) ?_; clear S; intro a S
          refine wpList_nil ?_
          exact RPost.mk_ S rfl S0 ⟨fun k_ => absurd k_ hc3, fun _ => rfl⟩ (Below.refl _ _)
      refine RunAll.cons (cndF q_50 false (isI .i64 x_54)) [(cndF q_50 false (isI .i64 t_23), 44), (eqv (.bool q_50), 43)] rfl rfl ?_ ?_
      · intro W_ hW
        by_cases hc3 : q_50 = false
        · have hl3 : q_50 = false := hc3
          have S1 := S
          intro v_206 hF_207
          replace hF_207 := cndF.pos hF_207 hc3
          revert hF_207
          revert v_206
          rintro _ ⟨rfl, hF_208⟩
          replace S1 := S1.put (by decide : 44 < 184) (.int .i64 t_23)
          intro v_211 hF_210; obtain rfl : .bool q_50 = v_211 := Eq.symm hF_210
          replace S1 := S1.put (by decide : 43 < 184) (.bool q_50)
          refine fill_nil S1 ?_; clear S1; intro a_ S1
          rw [show q_50 = false from hl3] at S1
          have S0 := S.defers; replace S := S1; clear S1
          obtain ⟨ex_54, _⟩ := (HG_53).1 hc3
          refine w_go S rfl (op_rem S .i64 rfl rfl rfl rfl rfl ex_54 ?_)
          clear S; intro a S
          refine wpList_nil ?_
          exact RPost.mk_ S rfl S0 ⟨fun _ => ⟨rfl, (inR_rem ex_54)⟩, fun k_ => absurd hc3 k_⟩ (Below.refl _ _)
        · have hl3 : q_50 = true := (by simpa using hc3)
          have S1 := S
          intro v_212 hF_213
          obtain rfl := cndF.neg hF_213 hc3
          replace S1 := S1.put (by decide : 44 < 184) (undef)
          intro v_215 hF_214; obtain rfl : .bool q_50 = v_215 := Eq.symm hF_214
          replace S1 := S1.put (by decide : 43 < 184) (.bool q_50)
          refine fill_nil S1 ?_; clear S1; intro a_ S1
          rw [show q_50 = true from hl3] at S1
          have S0 := S.defers; replace S := S1; clear S1
          refine wl_pure (l' := [(45, undef), (43, .bool true), (44, undef), (5, .int .i64 t_23), (4, .func (.func 25) #[] #[.pointer (some (⟨b_1, 0, .none⟩ : Addr))]), (2, .pointer (some (⟨b_5, 0, .none⟩ : Addr))), (1, .pointer (some (⟨b_1, 0, .none⟩ : Addr)))]) S tys tys_ok 1 (by kernel_rfl) ?_; clear S; intro a S
          refine wpList_nil ?_
          exact RPost.mk_ S rfl S0 ⟨fun k_ => absurd k_ hc3, fun _ => rfl⟩ (Below.refl _ _)
      refine RunAll.cons (cndF q_50 false (eqv (.bool (x_54 != 0)))) [(cndF q_50 false (isI .i64 x_54), 45), (eqv (.bool q_50), 43)] rfl rfl ?_ ?_
      · intro W_ hW
        by_cases hc3 : q_50 = false
        · have hl3 : q_50 = false := hc3
          have S1 := S
          intro v_216 hF_217
          replace hF_217 := cndF.pos hF_217 hc3
          revert hF_217
          revert v_216
          rintro _ ⟨rfl, hF_218⟩
          replace S1 := S1.put (by decide : 45 < 184) (.int .i64 x_54)
          intro v_221 hF_220; obtain rfl : .bool q_50 = v_221 := Eq.symm hF_220
          replace S1 := S1.put (by decide : 43 < 184) (.bool q_50)
          refine fill_nil S1 ?_; clear S1; intro a_ S1
          rw [show q_50 = false from hl3] at S1
          have S0 := S.defers; replace S := S1; clear S1
          refine wl_pure (l' := [(46, .bool (x_54 != 0)), (43, .bool false), (45, .int .i64 x_54), (5, .int .i64 t_23), (4, .func (.func 25) #[] #[.pointer (some (⟨b_1, 0, .none⟩ : Addr))]), (2, .pointer (some (⟨b_5, 0, .none⟩ : Addr))), (1, .pointer (some (⟨b_1, 0, .none⟩ : Addr)))]) S tys tys_ok 1 (by kernel_rfl) ?_; clear S; intro a S
          refine wpList_nil ?_
          exact RPost.mk_ S rfl S0 ⟨fun _ => rfl, fun k_ => absurd hc3 k_⟩ (Below.refl _ _)
        · have hl3 : q_50 = true := (by simpa using hc3)
          have S1 := S
          intro v_222 hF_223
          obtain rfl := cndF.neg hF_223 hc3
          replace S1 := S1.put (by decide : 45 < 184) (undef)
          intro v_225 hF_224; obtain rfl : .bool q_50 = v_225 := Eq.symm hF_224
          replace S1 := S1.put (by decide : 43 < 184) (.bool q_50)
          refine fill_nil S1 ?_; clear S1; intro a_ S1
          rw [show q_50 = true from hl3] at S1
          have S0 := S.defers; replace S := S1; clear S1
          refine wl_pure (l' := [(46, undef), (43, .bool true), (45, undef), (5, .int .i64 t_23), (4, .func (.func 25) #[] #[.pointer (some (⟨b_1, 0, .none⟩ : Addr))]), (2, .pointer (some (⟨b_5, 0, .none⟩ : Addr))), (1, .pointer (some (⟨b_1, 0, .none⟩ : Addr)))]) S tys tys_ok 1 (by kernel_rfl) ?_; clear S; intro a S
          refine wpList_nil ?_
          exact RPost.mk_ S rfl S0 ⟨fun k_ => absurd k_ hc3, fun _ => rfl⟩ (Below.refl _ _)
      refine RunAll.cons (eqv (.bool q_52)) [(eqv (.bool q_50), 43), (cndF q_50 false (eqv (.bool (x_54 != 0))), 46)] rfl rfl ?_ ?_
      · intro W_ hW
        by_cases hc3 : q_50 = false
        · have hl3 : q_50 = false := hc3
          have S1 := S
          intro v_227 hF_226; obtain rfl : .bool q_50 = v_227 := Eq.symm hF_226
          replace S1 := S1.put (by decide : 43 < 184) (.bool q_50)
          intro v_228 hF_229
          replace hF_229 := cndF.pos hF_229 hc3
          revert hF_229
          revert v_228
          intro v_231 hF_230; obtain rfl : .bool (x_54 != 0) = v_231 := Eq.symm hF_230
          replace S1 := S1.put (by decide : 46 < 184) (.bool (x_54 != 0))
          refine fill_nil S1 ?_; clear S1; intro a_ S1
          rw [show q_50 = false from hl3] at S1
          have S0 := S.defers; replace S := S1; clear S1
          refine wl_pure (l' := [(47, .bool (x_54 != 0)), (46, .bool (x_54 != 0)), (43, .bool false), (5, .int .i64 t_23), (4, .func (.func 25) #[] #[.pointer (some (⟨b_1, 0, .none⟩ : Addr))]), (2, .pointer (some (⟨b_5, 0, .none⟩ : Addr))), (1, .pointer (some (⟨b_1, 0, .none⟩ : Addr)))]) S tys tys_ok 1 (by kernel_rfl) ?_; clear S; intro a S
          refine wpList_nil ?_
          exact RPost.mk_ S rfl S0 (congrArg Value.bool ((HG_53).1 hc3).2) (Below.refl _ _)
        · have hl3 : q_50 = true := (by simpa using hc3)
          have S1 := S
          intro v_233 hF_232; obtain rfl : .bool q_50 = v_233 := Eq.symm hF_232
          replace S1 := S1.put (by decide : 43 < 184) (.bool q_50)
          intro v_234 hF_235
          obtain rfl := cndF.neg hF_235 hc3
          replace S1 := S1.put (by decide : 46 < 184) (undef)
          refine fill_nil S1 ?_; clear S1; intro a_ S1
          rw [show q_50 = true from hl3] at S1
          have S0 := S.defers; replace S := S1; clear S1
          refine wl_pure (l' := [(47, .bool true), (46, undef), (43, .bool true), (5, .int .i64 t_23), (4, .func (.func 25) #[] #[.pointer (some (⟨b_1, 0, .none⟩ : Addr))]), (2, .pointer (some (⟨b_5, 0, .none⟩ : Addr))), (1, .pointer (some (⟨b_1, 0, .none⟩ : Addr)))]) S tys tys_ok 1 (by kernel_rfl) ?_; clear S; intro a S
          refine wpList_nil ?_
          exact RPost.mk_ S rfl S0 (congrArg Value.bool ((HG_53).2 hc3)) (Below.refl _ _)
      refine RunAll.cons (eqv (.bool q_52)) [(eqv (.bool q_52), 47)] rfl rfl ?_ ?_
      · intro W_ hW
        have S1 := S
        intro v_237 hF_236; obtain rfl : .bool q_52 = v_237 := Eq.symm hF_236
        replace S1 := S1.put (by decide : 47 < 184) (.bool q_52)
        refine fill_nil S1 ?_; clear S1; intro a_ S1
        have S0 := S.defers; replace S := S1; clear S1
        refine wl_pure (l' := [(48, .bool q_52), (47, .bool q_52), (5, .int .i64 t_23), (4, .func (.func 25) #[] #[.pointer (some (⟨b_1, 0, .none⟩ : Addr))]), (2, .pointer (some (⟨b_5, 0, .none⟩ : Addr))), (1, .pointer (some (⟨b_1, 0, .none⟩ : Addr)))]) S tys tys_ok 1 (by kernel_rfl) ?_; clear S; intro a S
        refine wpList_nil ?_
        exact RPost.mk_ S rfl S0 rfl (Below.refl _ _)
      refine RunAll.cons (cndF q_52 false (isI .i64 t_23)) [(eqv (.bool q_52), 48)] rfl rfl ?_ ?_
      · intro W_ hW
        by_cases hc4 : q_52 = false
        · have hl4 : q_52 = false := hc4
          have S1 := S
          intro v_239 hF_238; obtain rfl : .bool q_52 = v_239 := Eq.symm hF_238
          replace S1 := S1.put (by decide : 48 < 184) (.bool q_52)
          refine fill_nil S1 ?_; clear S1; intro a_ S1
          rw [show q_52 = false from hl4] at S1
          have S0 := S.defers; replace S := S1; clear S1
          refine wl_pure (l' := [(49, .int .i64 t_23), (48, .bool false), (5, .int .i64 t_23), (4, .func (.func 25) #[] #[.pointer (some (⟨b_1, 0, .none⟩ : Addr))]), (2, .pointer (some (⟨b_5, 0, .none⟩ : Addr))), (1, .pointer (some (⟨b_1, 0, .none⟩ : Addr)))]) S tys tys_ok 1 (by kernel_rfl) ?_; clear S; intro a S
          refine wpList_nil ?_
          exact RPost.mk_ S rfl S0 ⟨fun _ => ⟨rfl, GR_25⟩, fun k_ => absurd hc4 k_⟩ (Below.refl _ _)
        · have hl4 : q_52 = true := (by simpa using hc4)
          have S1 := S
          intro v_241 hF_240; obtain rfl : .bool q_52 = v_241 := Eq.symm hF_240
          replace S1 := S1.put (by decide : 48 < 184) (.bool q_52)
          refine fill_nil S1 ?_; clear S1; intro a_ S1
          rw [show q_52 = true from hl4] at S1
          have S0 := S.defers; replace S := S1; clear S1
          refine wl_pure (l' := [(49, undef), (48, .bool true), (5, .int .i64 t_23), (4, .func (.func 25) #[] #[.pointer (some (⟨b_1, 0, .none⟩ : Addr))]), (2, .pointer (some (⟨b_5, 0, .none⟩ : Addr))), (1, .pointer (some (⟨b_1, 0, .none⟩ : Addr)))]) S tys tys_ok 1 (by kernel_rfl) ?_; clear S; intro a S
          refine wpList_nil ?_
          exact RPost.mk_ S rfl S0 ⟨fun k_ => absurd k_ hc4, fun _ => rfl⟩ (Below.refl _ _)
      refine RunAll.cons (cndF q_52 false (isI .i64 x_57)) [(cndF q_52 false (isI .i64 t_23), 49), (eqv (.bool q_52), 48)] rfl rfl ?_ ?_
      · intro W_ hW
        by_cases hc4 : q_52 = false
        · have hl4 : q_52 = false := hc4
          have S1 := S
          intro v_242 hF_243
          replace hF_243 := cndF.pos hF_243 hc4
          revert hF_243
          revert v_242
          rintro _ ⟨rfl, hF_244⟩
          replace S1 := S1.put (by decide : 49 < 184) (.int .i64 t_23)
          intro v_247 hF_246; obtain rfl : .bool q_52 = v_247 := Eq.symm hF_246
          replace S1 := S1.put (by decide : 48 < 184) (.bool q_52)
          refine fill_nil S1 ?_; clear S1; intro a_ S1
          rw [show q_52 = false from hl4] at S1
          have S0 := S.defers; replace S := S1; clear S1
          obtain ⟨ex_57, _⟩ := (HG_56).1 hc4
          refine w_go S rfl (op_arith S .i64 (t_23 + 12) rfl (.inl rfl) rfl rfl rfl rfl ex_57 ?_)
          clear S; intro a S
          refine wpList_nil ?_
          exact RPost.mk_ S rfl S0 ⟨fun _ => ⟨rfl, (ckI_some ex_57).2.1⟩, fun k_ => absurd hc4 k_⟩ (Below.refl _ _)
        · have hl4 : q_52 = true := (by simpa using hc4)
          have S1 := S
          intro v_248 hF_249
          obtain rfl := cndF.neg hF_249 hc4
          replace S1 := S1.put (by decide : 49 < 184) (undef)
          intro v_251 hF_250; obtain rfl : .bool q_52 = v_251 := Eq.symm hF_250
          replace S1 := S1.put (by decide : 48 < 184) (.bool q_52)
          refine fill_nil S1 ?_; clear S1; intro a_ S1
          rw [show q_52 = true from hl4] at S1
          have S0 := S.defers; replace S := S1; clear S1
          refine wl_pure (l' := [(50, undef), (48, .bool true), (49, undef), (5, .int .i64 t_23), (4, .func (.func 25) #[] #[.pointer (some (⟨b_1, 0, .none⟩ : Addr))]), (2, .pointer (some (⟨b_5, 0, .none⟩ : Addr))), (1, .pointer (some (⟨b_1, 0, .none⟩ : Addr)))]) S tys tys_ok 1 (by kernel_rfl) ?_; clear S; intro a S
          refine wpList_nil ?_
          exact RPost.mk_ S rfl S0 ⟨fun k_ => absurd k_ hc4, fun _ => rfl⟩ (Below.refl _ _)
      refine RunAll.cons (cndF q_52 false (isRep (.sl (.int .u8)) (Kx K w.heap.size [some b_5, some b_1]) x0)) [(eqv (.bool q_52), 48)] rfl rfl ?_ ?_
      · intro W_ hW
        by_cases hc4 : q_52 = false
        · have hl4 : q_52 = false := hc4
          have S1 := S
          intro v_253 hF_252; obtain rfl : .bool q_52 = v_253 := Eq.symm hF_252
          replace S1 := S1.put (by decide : 48 < 184) (.bool q_52)
          refine fill_nil S1 ?_; clear S1; intro a_ S1
          replace B_2 := B_2.step hW
          rw [show q_52 = false from hl4] at S1
          have S0 := S.defers; replace S := S1; clear S1
          obtain ⟨ex_57, _⟩ := (HG_56).1 hc4
          refine w_go S rfl (op_load (t := (.sl (.int .u8))) (x := x0) S rfl ty28 rfl rfl rfl B_2.at_ ?_)
          clear S; intro a v_254 R_255 S
          refine wpList_nil ?_
          exact RPost.mk_ S rfl S0 ⟨fun _ => R_255, fun k_ => absurd hc4 k_⟩ (Below.refl _ _)
        · have hl4 : q_52 = true := (by simpa using hc4)
          have S1 := S
          intro v_257 hF_256; obtain rfl : .bool q_52 = v_257 := Eq.symm hF_256
          replace S1 := S1.put (by decide : 48 < 184) (.bool q_52)
          refine fill_nil S1 ?_; clear S1; intro a_ S1
          rw [show q_52 = true from hl4] at S1
          have S0 := S.defers; replace S := S1; clear S1
          refine wl_pure (l' := [(51, undef), (48, .bool true), (5, .int .i64 t_23), (4, .func (.func 25) #[] #[.pointer (some (⟨b_1, 0, .none⟩ : Addr))]), (2, .pointer (some (⟨b_5, 0, .none⟩ : Addr))), (1, .pointer (some (⟨b_1, 0, .none⟩ : Addr)))]) S tys tys_ok 1 (by kernel_rfl) ?_; clear S; intro a S
          refine wpList_nil ?_
          exact RPost.mk_ S rfl S0 ⟨fun k_ => absurd k_ hc4, fun _ => rfl⟩ (Below.refl _ _)
      refine RunAll.cons (cndF q_52 false (isI .i64 (lenI x0))) [(cndF q_52 false (isRep (.sl (.int .u8)) (Kx K w.heap.size [some b_5, some b_1]) x0), 51), (eqv (.bool q_52), 48)] rfl rfl ?_ ?_
      · intro W_ hW
        by_cases hc4 : q_52 = false
        · have hl4 : q_52 = false := hc4
          have S1 := S
          intro v_258 hF_259
          replace hF_259 := cndF.pos hF_259 hc4
          revert hF_259
          revert v_258
          intro v_261 hF_260; replace hF_260 : RepV _ _ _ _ _ := hF_260
          replace S1 := S1.put (by decide : 51 < 184) (v_261)
          intro v_263 hF_262; obtain rfl : .bool q_52 = v_263 := Eq.symm hF_262
          replace S1 := S1.put (by decide : 48 < 184) (.bool q_52)
          refine fill_nil S1 ?_; clear S1; intro a_ S1
          replace W := W.step hW
          rw [show q_52 = false from hl4] at S1
          have S0 := S.defers; replace S := S1; clear S1
          obtain ⟨ex_57, _⟩ := (HG_56).1 hc4
          refine w_go S rfl (op_len (K := _) S rfl ty28 rfl rfl rfl hF_260 ?_)
          clear S; intro a G_264 S
          refine wpList_nil ?_
          exact RPost.mk_ S rfl S0 ⟨fun _ => ⟨rfl, G_264⟩, fun k_ => absurd hc4 k_⟩ (Below.refl _ _)
        · have hl4 : q_52 = true := (by simpa using hc4)
          have S1 := S
          intro v_265 hF_266
          obtain rfl := cndF.neg hF_266 hc4
          replace S1 := S1.put (by decide : 51 < 184) (undef)
          intro v_268 hF_267; obtain rfl : .bool q_52 = v_268 := Eq.symm hF_267
          replace S1 := S1.put (by decide : 48 < 184) (.bool q_52)
          refine fill_nil S1 ?_; clear S1; intro a_ S1
          rw [show q_52 = true from hl4] at S1
          have S0 := S.defers; replace S := S1; clear S1
          refine wl_pure (l' := [(52, undef), (48, .bool true), (51, undef), (5, .int .i64 t_23), (4, .func (.func 25) #[] #[.pointer (some (⟨b_1, 0, .none⟩ : Addr))]), (2, .pointer (some (⟨b_5, 0, .none⟩ : Addr))), (1, .pointer (some (⟨b_1, 0, .none⟩ : Addr)))]) S tys tys_ok 1 (by kernel_rfl) ?_; clear S; intro a S
          refine wpList_nil ?_
          exact RPost.mk_ S rfl S0 ⟨fun k_ => absurd k_ hc4, fun _ => rfl⟩ (Below.refl _ _)
      refine RunAll.cons (cndF q_52 false (eqv (.bool (decide (x_57 > (lenI x0)))))) [(cndF q_52 false (isI .i64 x_57), 50), (cndF q_52 false (isI .i64 (lenI x0)), 52), (eqv (.bool q_52), 48)] rfl rfl ?_ ?_
      · intro W_ hW
        by_cases hc4 : q_52 = false
        · have hl4 : q_52 = false := hc4
          have S1 := S
          intro v_269 hF_270
          replace hF_270 := cndF.pos hF_270 hc4
          revert hF_270
          revert v_269
          rintro _ ⟨rfl, hF_271⟩
          replace S1 := S1.put (by decide : 50 < 184) (.int .i64 x_57)
          intro v_273 hF_274
          replace hF_274 := cndF.pos hF_274 hc4
          revert hF_274
          revert v_273
          rintro _ ⟨rfl, hF_275⟩
          replace S1 := S1.put (by decide : 52 < 184) (.int .i64 (lenI x0))
          intro v_278 hF_277; obtain rfl : .bool q_52 = v_278 := Eq.symm hF_277
          replace S1 := S1.put (by decide : 48 < 184) (.bool q_52)
          refine fill_nil S1 ?_; clear S1; intro a_ S1
          rw [show q_52 = false from hl4] at S1
          have S0 := S.defers; replace S := S1; clear S1
          refine wl_pure (l' := [(53, .bool (decide (x_57 > (lenI x0)))), (48, .bool false), (52, .int .i64 (lenI x0)), (50, .int .i64 x_57), (5, .int .i64 t_23), (4, .func (.func 25) #[] #[.pointer (some (⟨b_1, 0, .none⟩ : Addr))]), (2, .pointer (some (⟨b_5, 0, .none⟩ : Addr))), (1, .pointer (some (⟨b_1, 0, .none⟩ : Addr)))]) S tys tys_ok 1 (by kernel_rfl) ?_; clear S; intro a S
          refine wpList_nil ?_
          exact RPost.mk_ S rfl S0 ⟨fun _ => rfl, fun k_ => absurd hc4 k_⟩ (Below.refl _ _)
        · have hl4 : q_52 = true := (by simpa using hc4)
          have S1 := S
          intro v_279 hF_280
          obtain rfl := cndF.neg hF_280 hc4
          replace S1 := S1.put (by decide : 50 < 184) (undef)
          intro v_281 hF_282
          obtain rfl := cndF.neg hF_282 hc4
          replace S1 := S1.put (by decide : 52 < 184) (undef)
          intro v_284 hF_283; obtain rfl : .bool q_52 = v_284 := Eq.symm hF_283
          replace S1 := S1.put (by decide : 48 < 184) (.bool q_52)
          refine fill_nil S1 ?_; clear S1; intro a_ S1
          rw [show q_52 = true from hl4] at S1
          have S0 := S.defers; replace S := S1; clear S1
          refine wl_pure (l' := [(53, undef), (48, .bool true), (52, undef), (50, undef), (5, .int .i64 t_23), (4, .func (.func 25) #[] #[.pointer (some (⟨b_1, 0, .none⟩ : Addr))]), (2, .pointer (some (⟨b_5, 0, .none⟩ : Addr))), (1, .pointer (some (⟨b_1, 0, .none⟩ : Addr)))]) S tys tys_ok 1 (by kernel_rfl) ?_; clear S; intro a S
          refine wpList_nil ?_
          exact RPost.mk_ S rfl S0 ⟨fun k_ => absurd k_ hc4, fun _ => rfl⟩ (Below.refl _ _)
      refine RunAll.cons (eqv (.bool q_55)) [(eqv (.bool q_52), 48), (cndF q_52 false (eqv (.bool (decide (x_57 > (lenI x0))))), 53)] rfl rfl ?_ ?_
      · intro W_ hW
        by_cases hc4 : q_52 = false
        · have hl4 : q_52 = false := hc4
          have S1 := S
          intro v_286 hF_285; obtain rfl : .bool q_52 = v_286 := Eq.symm hF_285
          replace S1 := S1.put (by decide : 48 < 184) (.bool q_52)
          intro v_287 hF_288
          replace hF_288 := cndF.pos hF_288 hc4
          revert hF_288
          revert v_287
          intro v_290 hF_289; obtain rfl : .bool (decide (x_57 > (lenI x0))) = v_290 := Eq.symm hF_289
          replace S1 := S1.put (by decide : 53 < 184) (.bool (decide (x_57 > (lenI x0))))
          refine fill_nil S1 ?_; clear S1; intro a_ S1
          rw [show q_52 = false from hl4] at S1
          have S0 := S.defers; replace S := S1; clear S1
          refine wl_pure (l' := [(54, .bool (decide (x_57 > (lenI x0)))), (53, .bool (decide (x_57 > (lenI x0)))), (48, .bool false), (5, .int .i64 t_23), (4, .func (.func 25) #[] #[.pointer (some (⟨b_1, 0, .none⟩ : Addr))]), (2, .pointer (some (⟨b_5, 0, .none⟩ : Addr))), (1, .pointer (some (⟨b_1, 0, .none⟩ : Addr)))]) S tys tys_ok 1 (by kernel_rfl) ?_; clear S; intro a S
          refine wpList_nil ?_
          exact RPost.mk_ S rfl S0 (congrArg Value.bool ((HG_56).1 hc4).2) (Below.refl _ _)
        · have hl4 : q_52 = true := (by simpa using hc4)
          have S1 := S
          intro v_292 hF_291; obtain rfl : .bool q_52 = v_292 := Eq.symm hF_291
          replace S1 := S1.put (by decide : 48 < 184) (.bool q_52)
          intro v_293 hF_294
          obtain rfl := cndF.neg hF_294 hc4
          replace S1 := S1.put (by decide : 53 < 184) (undef)
          refine fill_nil S1 ?_; clear S1; intro a_ S1
          rw [show q_52 = true from hl4] at S1
          have S0 := S.defers; replace S := S1; clear S1
          refine wl_pure (l' := [(54, .bool true), (53, undef), (48, .bool true), (5, .int .i64 t_23), (4, .func (.func 25) #[] #[.pointer (some (⟨b_1, 0, .none⟩ : Addr))]), (2, .pointer (some (⟨b_5, 0, .none⟩ : Addr))), (1, .pointer (some (⟨b_1, 0, .none⟩ : Addr)))]) S tys tys_ok 1 (by kernel_rfl) ?_; clear S; intro a S
          refine wpList_nil ?_
          exact RPost.mk_ S rfl S0 (congrArg Value.bool ((HG_56).2 hc4)) (Below.refl _ _)
      exact trivial
    intro w_295 hb_296
    refine EndE.some_ rfl ?_
    intro v_298 hF_297; replace hF_297 : RepV _ _ _ _ _ := hF_297
    replace S := S.put (by decide : 23 < 184) (v_298)
    refine EndE.some_ rfl ?_
    intro v_300 hF_299; replace hF_299 : RepV _ _ _ _ _ := hF_299
    replace S := S.put (by decide : 24 < 184) (v_300)
    refine EndE.some_ rfl ?_
    rintro _ ⟨rfl, hF_301⟩
    replace S := S.put (by decide : 25 < 184) (.string (strOfNums s_32.xs))
    refine EndE.some_ rfl ?_
    intro v_304 hF_303; obtain rfl : .bool (!(decide (s_32.xs = [78, 67, 77, 72]))) = v_304 := Eq.symm hF_303
    replace S := S.put (by decide : 26 < 184) (.bool (!(decide (s_32.xs = [78, 67, 77, 72]))))
    refine EndE.some_ rfl ?_
    intro v_306 hF_305; obtain rfl : .bool (!(decide (s_32.xs = [78, 67, 77, 72]))) = v_306 := Eq.symm hF_305
    replace S := S.put (by decide : 27 < 184) (.bool (!(decide (s_32.xs = [78, 67, 77, 72]))))
    refine EndE.some_ rfl ?_
    intro v_307 _
    replace S := S.put (by decide : 28 < 184) (v_307)
    refine EndE.some_ rfl ?_
    intro v_308 _
    replace S := S.put (by decide : 29 < 184) (v_308)
    refine EndE.some_ rfl ?_
    intro v_309 _
    replace S := S.put (by decide : 30 < 184) (v_309)
    refine EndE.some_ rfl ?_
    intro v_311 hF_310; obtain rfl : .bool q_33 = v_311 := Eq.symm hF_310
    replace S := S.put (by decide : 31 < 184) (.bool q_33)
    refine EndE.some_ rfl ?_
    intro v_313 hF_312; obtain rfl : .bool q_33 = v_313 := Eq.symm hF_312
    replace S := S.put (by decide : 32 < 184) (.bool q_33)
    refine EndE.some_ rfl ?_
    intro v_314 _
    replace S := S.put (by decide : 33 < 184) (v_314)
    refine EndE.some_ rfl ?_
    intro v_315 _
    replace S := S.put (by decide : 34 < 184) (v_315)
    refine EndE.some_ rfl ?_
    intro v_316 _
    replace S := S.put (by decide : 35 < 184) (v_316)
    refine EndE.some_ rfl ?_
    intro v_317 _
    replace S := S.put (by decide : 36 < 184) (v_317)
    refine EndE.some_ rfl ?_
    intro v_318 _
    replace S := S.put (by decide : 37 < 184) (v_318)
    refine EndE.some_ rfl ?_
    intro v_320 hF_319; obtain rfl : .bool q_40 = v_320 := Eq.symm hF_319
    replace S := S.put (by decide : 38 < 184) (.bool q_40)
    refine EndE.some_ rfl ?_
    intro v_322 hF_321; obtain rfl : .bool q_40 = v_322 := Eq.symm hF_321
    replace S := S.put (by decide : 39 < 184) (.bool q_40)
    refine EndE.some_ rfl ?_
    intro v_323 _
    replace S := S.put (by decide : 40 < 184) (v_323)
    refine EndE.some_ rfl ?_
    intro v_324 _
    replace S := S.put (by decide : 41 < 184) (v_324)
    refine EndE.some_ rfl ?_
    intro v_326 hF_325; obtain rfl : .bool q_50 = v_326 := Eq.symm hF_325
    replace S := S.put (by decide : 42 < 184) (.bool q_50)
    refine EndE.some_ rfl ?_
    intro v_328 hF_327; obtain rfl : .bool q_50 = v_328 := Eq.symm hF_327
    replace S := S.put (by decide : 43 < 184) (.bool q_50)
    refine EndE.some_ rfl ?_
    intro v_329 _
    replace S := S.put (by decide : 44 < 184) (v_329)
    refine EndE.some_ rfl ?_
    intro v_330 _
    replace S := S.put (by decide : 45 < 184) (v_330)
    refine EndE.some_ rfl ?_
    intro v_331 _
    replace S := S.put (by decide : 46 < 184) (v_331)
    refine EndE.some_ rfl ?_
    intro v_333 hF_332; obtain rfl : .bool q_52 = v_333 := Eq.symm hF_332
    replace S := S.put (by decide : 47 < 184) (.bool q_52)
    refine EndE.some_ rfl ?_
    intro v_335 hF_334; obtain rfl : .bool q_52 = v_335 := Eq.symm hF_334
    replace S := S.put (by decide : 48 < 184) (.bool q_52)
    refine EndE.some_ rfl ?_
    intro v_336 _
    replace S := S.put (by decide : 49 < 184) (v_336)
    refine EndE.some_ rfl ?_
    intro v_337 _
    replace S := S.put (by decide : 50 < 184) (v_337)
    refine EndE.some_ rfl ?_
    intro v_338 _
    replace S := S.put (by decide : 51 < 184) (v_338)
    refine EndE.some_ rfl ?_
    intro v_339 _
    replace S := S.put (by decide : 52 < 184) (v_339)
    refine EndE.some_ rfl ?_
    intro v_340 _
    replace S := S.put (by decide : 53 < 184) (v_340)
    refine EndE.some_ rfl ?_
    intro v_342 hF_341; obtain rfl : .bool q_55 = v_342 := Eq.symm hF_341
    replace S := S.put (by decide : 54 < 184) (.bool q_55)
    refine endE_nil S ?_; clear S; intro a S
    replace B_2 := B_2.step hb_296
    replace B_6 := B_6.step hb_296
    replace W := W.step hb_296
    refine then_n ?_
    replace S := S.sub (l' := [(54, .bool q_55), (5, .int .i64 t_23), (4, .func (.func 25) #[] #[.pointer (some (⟨b_1, 0, .none⟩ : Addr))]), (2, .pointer (some (⟨b_5, 0, .none⟩ : Addr))), (1, .pointer (some (⟨b_1, 0, .none⟩ : Addr)))]) (by exact ⟨rfl, rfl, rfl, rfl, rfl, trivial⟩)
    refine wp_cond_split (S.eval (show ev _ _ = some (.bool q_55) from rfl)) ?_ ?_
    · intro hc
      rw [if_pos hc] at h
      refine wp_seq ?_
      refine wp_region_lit ?_
      refine w_go S rfl (op_build (K := (Kx K w.heap.size [some b_5, some b_1])) (f := (.pair (.int .u16) .raw)) (z0 := (0, (.slice .none 0 0))) (x := (0, (.slice .none 0 0))) (vs := []) S _ rfl tyw25_1 z25 (fun w K => ⟨[.int .u16 0], [.slice .none 0 0], rfl, ⟨rfl, by decide⟩, ⟨rfl, _, _, _, rfl⟩⟩) rfl rfl rfl [] rfl rfl ?_)
      clear S; intro a v_343 R_344 S
      refine w_go S rfl (op_store (t' := (.st (.pair (.int .u16) .raw))) S rfl rfl tyw25_1 rfl rfl rfl B_6 (by simp) Ln.whole R_344 ?_)
      intro w_345 hw_346 B_
      replace R_344 := R_344.wrote hw_346 (by simp)
      replace B_2 := B_2.wrote hw_346 (by simp) (W.bne (p := 1) (q := 0) (by decide) rfl rfl)
      replace W := W.wrote hw_346 (by simp)
      replace B_6 : Bx (.st (.pair (.int .u16) .raw)) 25 w_345 (Kx K w.heap.size [some b_5, some b_1]) b_5 (0, (.slice .none 0 0)) := B_; clear B_
      refine wl_pure (l' := [(3, .int .i64 4), (55, v_343), (54, .bool q_55), (5, .int .i64 t_23), (4, .func (.func 25) #[] #[.pointer (some (⟨b_1, 0, .none⟩ : Addr))]), (2, .pointer (some (⟨b_5, 0, .none⟩ : Addr))), (1, .pointer (some (⟨b_1, 0, .none⟩ : Addr)))]) S tys tys_ok 1 (by kernel_rfl) ?_
      clear S; intro a S
      refine wpList_nil ?_
      refine then_n ?_
      replace S := S.sub (l' := [(3, .int .i64 4), (2, .pointer (some (⟨b_5, 0, .none⟩ : Addr)))]) (by exact ⟨rfl, rfl, trivial⟩)
      refine wp_ret ?_
      refine then_r ?_
      replace B_6 : Bx (.st (.pair (.int .u16) (.sl (.sl (.int .u8))))) 25 w_345 (Kx K w.heap.size [some b_5, some b_1]) b_5 (0, (⟨[], some 0⟩ : Sl (Sl (Int)))) := Bx.unraw (f := (.pair (.int .u16) (.sl (.sl (.int .u8))))) 1 (0, (⟨[], some 0⟩ : Sl (Sl (Int)))) rfl B_6 RepV.nil
      obtain ⟨v_347, hr_348, R_349⟩ := res_cell (P := Try.prog) (T := 25) (t := (.st (.pair (.int .u16) (.sl (.sl (.int .u8)))))) (x := (0, (⟨[], some 0⟩ : Sl (Sl (Int))))) S (s := 2) rfl ty25 B_6.at_
      obtain rfl := Option.some.inj h
      exact b_res2 S rfl hr_348 (res_tmp S rfl) ⟨_, _, rfl, R_349.out, (RepV.mkInt (by decide)), W.below⟩
    · intro hc
      rw [if_neg (Bool.eq_false_iff.1 hc)] at h
      refine wp_skip ?_
      refine then_n ?_
      replace S := S.sub (l' := [(5, .int .i64 t_23), (4, .func (.func 25) #[] #[.pointer (some (⟨b_1, 0, .none⟩ : Addr))]), (2, .pointer (some (⟨b_5, 0, .none⟩ : Addr))), (1, .pointer (some (⟨b_1, 0, .none⟩ : Addr)))]) (by exact ⟨rfl, rfl, rfl, rfl, trivial⟩)
      refine wp_seq ?_
      refine wp_region_lit ?_
      refine wl_pure (l' := [(57, .int .i64 t_23), (56, .func (.func 25) #[] #[.pointer (some (⟨b_1, 0, .none⟩ : Addr))]), (5, .int .i64 t_23), (4, .func (.func 25) #[] #[.pointer (some (⟨b_1, 0, .none⟩ : Addr))]), (2, .pointer (some (⟨b_5, 0, .none⟩ : Addr))), (1, .pointer (some (⟨b_1, 0, .none⟩ : Addr)))]) S tys tys_ok 2 (by kernel_rfl) ?_
      clear S; intro a S
      obtain ⟨x_350, ex_350, h⟩ := bindS h
      refine w_go S rfl (op_arith S .i64 (t_23 + 4) rfl (.inl rfl) rfl rfl rfl rfl ex_350 ?_)
      clear S; intro a S
      obtain ⟨t_351, et_351, h⟩ := bindS h
      refine w_go S rfl (op_calld (vs := [.int .i64 x_350]) S rfl rfl cb25 rfl rfl rfl (c25 (Kx K w.heap.size [some b_5, some b_1]) n w_295 x_350 (ckI_some ex_350).2.1 _ x0 (Bx.br B_2) et_351) ?_)
      rintro _ w_355 ⟨v_352, rfl, R_353, hb_354⟩; refine ⟨_, rfl, ?_⟩
      replace R_353 := RepV.back R_353 W
      clear S; intro a S
      replace B_2 := B_2.step hb_354
      replace B_6 := B_6.step hb_354
      replace W := W.step hb_354
      obtain ⟨rfl, GR_353⟩ := RepV.int R_353
      refine wl_pure (l' := [(6, .int .i64 t_351), (59, .int .i64 t_351), (58, .int .i64 x_350), (57, .int .i64 t_23), (56, .func (.func 25) #[] #[.pointer (some (⟨b_1, 0, .none⟩ : Addr))]), (5, .int .i64 t_23), (4, .func (.func 25) #[] #[.pointer (some (⟨b_1, 0, .none⟩ : Addr))]), (2, .pointer (some (⟨b_5, 0, .none⟩ : Addr))), (1, .pointer (some (⟨b_1, 0, .none⟩ : Addr)))]) S tys tys_ok 1 (by kernel_rfl) ?_
      clear S; intro a S
      refine wpList_nil ?_
      refine then_n ?_
      replace S := S.sub (l' := [(6, .int .i64 t_351), (5, .int .i64 t_23), (4, .func (.func 25) #[] #[.pointer (some (⟨b_1, 0, .none⟩ : Addr))]), (2, .pointer (some (⟨b_5, 0, .none⟩ : Addr))), (1, .pointer (some (⟨b_1, 0, .none⟩ : Addr)))]) (by exact ⟨rfl, rfl, rfl, rfl, rfl, trivial⟩)
      refine wp_seq ?_
      refine wp_seq ?_
      refine wp_region_lit ?_
      refine w_go S rfl (op_load (t := (.sl (.int .u8))) (x := x0) S rfl ty28 rfl rfl rfl B_2.at_ ?_)
      clear S; intro a v_356 R_357 S
      refine wl_pure (l' := [(62, .int .i64 t_23), (61, .int .i64 t_23), (60, v_356), (6, .int .i64 t_351), (5, .int .i64 t_23), (4, .func (.func 25) #[] #[.pointer (some (⟨b_1, 0, .none⟩ : Addr))]), (2, .pointer (some (⟨b_5, 0, .none⟩ : Addr))), (1, .pointer (some (⟨b_1, 0, .none⟩ : Addr)))]) S tys tys_ok 2 (by kernel_rfl) ?_
      clear S; intro a S
      obtain ⟨x_358, ex_358, h⟩ := bindS h
      refine w_go S rfl (op_arith S .i64 (t_23 + 4) rfl (.inl rfl) rfl rfl rfl rfl ex_358 ?_)
      clear S; intro a S
      obtain ⟨s_361, es_361, h⟩ := bindS h
      refine w_go S rfl (op_slice S rfl ty28 rfl rfl rfl R_357 (.inr ⟨_, _, rfl, rfl⟩) (.inr ⟨_, _, rfl, rfl⟩) es_361 ?_)
      clear S; intro a v_359 R_360 S
      refine w_go S rfl (op_str (K := _) S rfl ty28 ty9 rfl rfl rfl R_360 ?_)
      clear S; intro a S
      refine w_go S rfl (op_strne S rfl rfl rfl rfl (by kernel_rfl) (R_360.byt).1 ((strG ([78, 67, 77, 48]) (by decide) (by decide))).1 ?_)
      clear S; intro a S
      refine wl_pure (l' := [(67, .bool (!(decide (s_361.xs = [78, 67, 77, 48])))), (66, .bool (!(decide (s_361.xs = [78, 67, 77, 48])))), (65, .string (strOfNums s_361.xs)), (64, v_359), (63, .int .i64 x_358), (62, .int .i64 t_23), (61, .int .i64 t_23), (60, v_356), (6, .int .i64 t_351), (5, .int .i64 t_23), (4, .func (.func 25) #[] #[.pointer (some (⟨b_1, 0, .none⟩ : Addr))]), (2, .pointer (some (⟨b_5, 0, .none⟩ : Addr))), (1, .pointer (some (⟨b_1, 0, .none⟩ : Addr)))]) S tys tys_ok 1 (by kernel_rfl) ?_
      clear S; intro a S
      obtain ⟨q_362, eq_362, h⟩ := bindS h
      refine seg 3 (fun a_ w_ => w_355 = w_ ∧ St 184 a_ [(70, .bool q_362), (6, .int .i64 t_351), (5, .int .i64 t_23), (4, .func (.func 25) #[] #[.pointer (some (⟨b_1, 0, .none⟩ : Addr))]), (2, .pointer (some (⟨b_5, 0, .none⟩ : Addr))), (1, .pointer (some (⟨b_1, 0, .none⟩ : Addr)))]) ?_ ?_
      · by_cases hc : (!(decide (s_361.xs = [78, 67, 77, 48]))) = false
        · rw [if_pos hc] at eq_362; rw [hc] at S
          refine wl_pure (l' := [(70, .bool (decide (t_351 < 12))), (69, .bool (decide (t_351 < 12))), (68, .int .i64 t_351), (67, .bool false), (66, .bool false), (65, .string (strOfNums s_361.xs)), (64, v_359), (63, .int .i64 x_358), (62, .int .i64 t_23), (61, .int .i64 t_23), (60, v_356), (6, .int .i64 t_351), (5, .int .i64 t_23), (4, .func (.func 25) #[] #[.pointer (some (⟨b_1, 0, .none⟩ : Addr))]), (2, .pointer (some (⟨b_5, 0, .none⟩ : Addr))), (1, .pointer (some (⟨b_1, 0, .none⟩ : Addr)))]) S tys tys_ok 3 (by kernel_rfl) ?_
          clear S; intro a S
          obtain rfl := Option.some.inj eq_362
          exact ⟨rfl, S.sub (by exact ⟨rfl, rfl, rfl, rfl, rfl, rfl, trivial⟩)⟩
        · rw [if_neg hc] at eq_362; rw [show (!(decide (s_361.xs = [78, 67, 77, 48]))) = true from (by simpa using hc)] at S
          refine wl_pure (l' := [(70, .bool true), (69, undef), (68, undef), (67, .bool true), (66, .bool true), (65, .string (strOfNums s_361.xs)), (64, v_359), (63, .int .i64 x_358), (62, .int .i64 t_23), (61, .int .i64 t_23), (60, v_356), (6, .int .i64 t_351), (5, .int .i64 t_23), (4, .func (.func 25) #[] #[.pointer (some (⟨b_1, 0, .none⟩ : Addr))]), (2, .pointer (some (⟨b_5, 0, .none⟩ : Addr))), (1, .pointer (some (⟨b_1, 0, .none⟩ : Addr)))]) S tys tys_ok 3 (by kernel_rfl) ?_
          clear S; intro a S
          obtain rfl := Option.some.inj eq_362
          exact ⟨rfl, S.sub (by exact ⟨rfl, rfl, rfl, rfl, rfl, rfl, trivial⟩)⟩
      clear S eq_362; rintro a _ ⟨rfl, S⟩
      refine wl_pure (l' := [(71, .bool q_362), (70, .bool q_362), (6, .int .i64 t_351), (5, .int .i64 t_23), (4, .func (.func 25) #[] #[.pointer (some (⟨b_1, 0, .none⟩ : Addr))]), (2, .pointer (some (⟨b_5, 0, .none⟩ : Addr))), (1, .pointer (some (⟨b_1, 0, .none⟩ : Addr)))]) S tys tys_ok 1 (by kernel_rfl) ?_
      clear S; intro a S
      obtain ⟨q_363, eq_363, h⟩ := bindS h
      refine seg 4 (fun a_ w_ => w_355 = w_ ∧ St 184 a_ [(75, .bool q_363), (6, .int .i64 t_351), (5, .int .i64 t_23), (4, .func (.func 25) #[] #[.pointer (some (⟨b_1, 0, .none⟩ : Addr))]), (2, .pointer (some (⟨b_5, 0, .none⟩ : Addr))), (1, .pointer (some (⟨b_1, 0, .none⟩ : Addr)))]) ?_ ?_
      · by_cases hc : q_362 = false
        · rw [if_pos hc] at eq_363; rw [hc] at S
          refine wl_pure (l' := [(72, .int .i64 t_351), (71, .bool false), (70, .bool false), (6, .int .i64 t_351), (5, .int .i64 t_23), (4, .func (.func 25) #[] #[.pointer (some (⟨b_1, 0, .none⟩ : Addr))]), (2, .pointer (some (⟨b_5, 0, .none⟩ : Addr))), (1, .pointer (some (⟨b_1, 0, .none⟩ : Addr)))]) S tys tys_ok 1 (by kernel_rfl) ?_
          clear S; intro a S
          obtain ⟨x_364, ex_364, eq_363⟩ := bindS eq_363
          refine w_go S rfl (op_rem S .i64 rfl rfl rfl rfl rfl ex_364 ?_)
          clear S; intro a S
          refine wl_pure (l' := [(75, .bool (x_364 != 0)), (74, .bool (x_364 != 0)), (73, .int .i64 x_364), (72, .int .i64 t_351), (71, .bool false), (70, .bool false), (6, .int .i64 t_351), (5, .int .i64 t_23), (4, .func (.func 25) #[] #[.pointer (some (⟨b_1, 0, .none⟩ : Addr))]), (2, .pointer (some (⟨b_5, 0, .none⟩ : Addr))), (1, .pointer (some (⟨b_1, 0, .none⟩ : Addr)))]) S tys tys_ok 2 (by kernel_rfl) ?_
          clear S; intro a S
          obtain rfl := Option.some.inj eq_363
          exact ⟨rfl, S.sub (by exact ⟨rfl, rfl, rfl, rfl, rfl, rfl, trivial⟩)⟩
        · rw [if_neg hc] at eq_363; rw [show q_362 = true from (by simpa using hc)] at S
          refine wl_pure (l' := [(75, .bool true), (74, undef), (73, undef), (72, undef), (71, .bool true), (70, .bool true), (6, .int .i64 t_351), (5, .int .i64 t_23), (4, .func (.func 25) #[] #[.pointer (some (⟨b_1, 0, .none⟩ : Addr))]), (2, .pointer (some (⟨b_5, 0, .none⟩ : Addr))), (1, .pointer (some (⟨b_1, 0, .none⟩ : Addr)))]) S tys tys_ok 4 (by kernel_rfl) ?_
          clear S; intro a S
          obtain rfl := Option.some.inj eq_363
          exact ⟨rfl, S.sub (by exact ⟨rfl, rfl, rfl, rfl, rfl, rfl, trivial⟩)⟩
      clear S eq_363; rintro a _ ⟨rfl, S⟩
      refine wl_pure (l' := [(76, .bool q_363), (75, .bool q_363), (6, .int .i64 t_351), (5, .int .i64 t_23), (4, .func (.func 25) #[] #[.pointer (some (⟨b_1, 0, .none⟩ : Addr))]), (2, .pointer (some (⟨b_5, 0, .none⟩ : Addr))), (1, .pointer (some (⟨b_1, 0, .none⟩ : Addr)))]) S tys tys_ok 1 (by kernel_rfl) ?_
      clear S; intro a S
      obtain ⟨q_365, eq_365, h⟩ := bindS h
      refine seg 7 (fun a_ w_ => w_355 = w_ ∧ St 184 a_ [(83, .bool q_365), (6, .int .i64 t_351), (5, .int .i64 t_23), (4, .func (.func 25) #[] #[.pointer (some (⟨b_1, 0, .none⟩ : Addr))]), (2, .pointer (some (⟨b_5, 0, .none⟩ : Addr))), (1, .pointer (some (⟨b_1, 0, .none⟩ : Addr)))]) ?_ ?_
      · by_cases hc : q_363 = false
        · rw [if_pos hc] at eq_365; rw [hc] at S
          refine wl_pure (l' := [(78, .int .i64 t_351), (77, .int .i64 t_23), (76, .bool false), (75, .bool false), (6, .int .i64 t_351), (5, .int .i64 t_23), (4, .func (.func 25) #[] #[.pointer (some (⟨b_1, 0, .none⟩ : Addr))]), (2, .pointer (some (⟨b_5, 0, .none⟩ : Addr))), (1, .pointer (some (⟨b_1, 0, .none⟩ : Addr)))]) S tys tys_ok 2 (by kernel_rfl) ?_
          clear S; intro a S
          obtain ⟨x_366, ex_366, eq_365⟩ := bindS eq_365
          refine w_go S rfl (op_arith S .i64 (t_23 + t_351) rfl (.inl rfl) rfl rfl rfl rfl ex_366 ?_)
          clear S; intro a S
          refine w_go S rfl (op_load (t := (.sl (.int .u8))) (x := x0) S rfl ty28 rfl rfl rfl B_2.at_ ?_)
          clear S; intro a v_367 R_368 S
          refine w_go S rfl (op_len (K := _) S rfl ty28 rfl rfl rfl R_368 ?_)
          clear S; intro a G_369 S
          refine wl_pure (l' := [(83, .bool (decide (x_366 > (lenI x0)))), (82, .bool (decide (x_366 > (lenI x0)))), (81, .int .i64 (lenI x0)), (80, v_367), (79, .int .i64 x_366), (78, .int .i64 t_351), (77, .int .i64 t_23), (76, .bool false), (75, .bool false), (6, .int .i64 t_351), (5, .int .i64 t_23), (4, .func (.func 25) #[] #[.pointer (some (⟨b_1, 0, .none⟩ : Addr))]), (2, .pointer (some (⟨b_5, 0, .none⟩ : Addr))), (1, .pointer (some (⟨b_1, 0, .none⟩ : Addr)))]) S tys tys_ok 2 (by kernel_rfl) ?_
          clear S; intro a S
          obtain rfl := Option.some.inj eq_365
          exact ⟨rfl, S.sub (by exact ⟨rfl, rfl, rfl, rfl, rfl, rfl, trivial⟩)⟩
        · rw [if_neg hc] at eq_365; rw [show q_363 = true from (by simpa using hc)] at S
          refine wl_pure (l' := [(83, .bool true), (82, undef), (81, undef), (80, undef), (79, undef), (78, undef), (77, undef), (76, .bool true), (75, .bool true), (6, .int .i64 t_351), (5, .int .i64 t_23), (4, .func (.func 25) #[] #[.pointer (some (⟨b_1, 0, .none⟩ : Addr))]), (2, .pointer (some (⟨b_5, 0, .none⟩ : Addr))), (1, .pointer (some (⟨b_1, 0, .none⟩ : Addr)))]) S tys tys_ok 7 (by kernel_rfl) ?_
          clear S; intro a S
          obtain rfl := Option.some.inj eq_365
          exact ⟨rfl, S.sub (by exact ⟨rfl, rfl, rfl, rfl, rfl, rfl, trivial⟩)⟩
      clear S eq_365; rintro a _ ⟨rfl, S⟩
      refine wl_pure (l' := [(84, .bool q_365), (83, .bool q_365), (6, .int .i64 t_351), (5, .int .i64 t_23), (4, .func (.func 25) #[] #[.pointer (some (⟨b_1, 0, .none⟩ : Addr))]), (2, .pointer (some (⟨b_5, 0, .none⟩ : Addr))), (1, .pointer (some (⟨b_1, 0, .none⟩ : Addr)))]) S tys tys_ok 1 (by kernel_rfl) ?_
      clear S; intro a S
      obtain ⟨q_370, eq_370, h⟩ := bindS h
      refine seg 6 (fun a_ w_ => St 184 a_ [(90, .bool q_370), (6, .int .i64 t_351), (5, .int .i64 t_23), (4, .func (.func 25) #[] #[.pointer (some (⟨b_1, 0, .none⟩ : Addr))]), (2, .pointer (some (⟨b_5, 0, .none⟩ : Addr))), (1, .pointer (some (⟨b_1, 0, .none⟩ : Addr)))] ∧ Wd w w_ [some b_5, some b_1] ∧ Bx (.sl (.int .u8)) 28 w_ (Kx K w.heap.size [some b_5, some b_1]) b_1 x0 ∧ Bx (.st (.pair (.int .u16) .raw)) 25 w_ (Kx K w.heap.size [some b_5, some b_1]) b_5 (0, (.slice .none 0 0))) ?_ ?_
      · by_cases hc : q_365 = false
        · rw [if_pos hc] at eq_370; rw [hc] at S
          refine wl_pure (l' := [(86, .int .i64 t_23), (85, .func (.func 25) #[] #[.pointer (some (⟨b_1, 0, .none⟩ : Addr))]), (84, .bool false), (83, .bool false), (6, .int .i64 t_351), (5, .int .i64 t_23), (4, .func (.func 25) #[] #[.pointer (some (⟨b_1, 0, .none⟩ : Addr))]), (2, .pointer (some (⟨b_5, 0, .none⟩ : Addr))), (1, .pointer (some (⟨b_1, 0, .none⟩ : Addr)))]) S tys tys_ok 2 (by kernel_rfl) ?_
          clear S; intro a S
          obtain ⟨x_371, ex_371, eq_370⟩ := bindS eq_370
          refine w_go S rfl (op_arith S .i64 (t_23 + 6) rfl (.inl rfl) rfl rfl rfl rfl ex_371 ?_)
          clear S; intro a S
          obtain ⟨t_372, et_372, eq_370⟩ := bindS eq_370
          refine w_go S rfl (op_calld (vs := [.int .i64 x_371]) S rfl rfl cb25 rfl rfl rfl (c25 (Kx K w.heap.size [some b_5, some b_1]) n w_355 x_371 (ckI_some ex_371).2.1 _ x0 (Bx.br B_2) et_372) ?_)
          rintro _ w_376 ⟨v_373, rfl, R_374, hb_375⟩; refine ⟨_, rfl, ?_⟩
          replace R_374 := RepV.back R_374 W
          clear S; intro a S
          replace B_2 := B_2.step hb_375
          replace B_6 := B_6.step hb_375
          replace W := W.step hb_375
          obtain ⟨rfl, GR_374⟩ := RepV.int R_374
          refine wl_pure (l' := [(90, .bool (t_372 != 0)), (89, .bool (t_372 != 0)), (88, .int .i64 t_372), (87, .int .i64 x_371), (86, .int .i64 t_23), (85, .func (.func 25) #[] #[.pointer (some (⟨b_1, 0, .none⟩ : Addr))]), (84, .bool false), (83, .bool false), (6, .int .i64 t_351), (5, .int .i64 t_23), (4, .func (.func 25) #[] #[.pointer (some (⟨b_1, 0, .none⟩ : Addr))]), (2, .pointer (some (⟨b_5, 0, .none⟩ : Addr))), (1, .pointer (some (⟨b_1, 0, .none⟩ : Addr)))]) S tys tys_ok 2 (by kernel_rfl) ?_
          clear S; intro a S
          obtain rfl := Option.some.inj eq_370
          exact ⟨S.sub (by exact ⟨rfl, rfl, rfl, rfl, rfl, rfl, trivial⟩), W, B_2, B_6⟩
        · rw [if_neg hc] at eq_370; rw [show q_365 = true from (by simpa using hc)] at S
          refine wl_pure (l' := [(90, .bool true), (89, undef), (88, undef), (87, undef), (86, undef), (85, undef), (84, .bool true), (83, .bool true), (6, .int .i64 t_351), (5, .int .i64 t_23), (4, .func (.func 25) #[] #[.pointer (some (⟨b_1, 0, .none⟩ : Addr))]), (2, .pointer (some (⟨b_5, 0, .none⟩ : Addr))), (1, .pointer (some (⟨b_1, 0, .none⟩ : Addr)))]) S tys tys_ok 6 (by kernel_rfl) ?_
          clear S; intro a S
          obtain rfl := Option.some.inj eq_370
          exact ⟨S.sub (by exact ⟨rfl, rfl, rfl, rfl, rfl, rfl, trivial⟩), W, B_2, B_6⟩
      clear S W eq_370; rintro a w_377 ⟨S, W, B_2, B_6⟩
      refine wl_pure (l' := [(91, .bool q_370), (90, .bool q_370), (6, .int .i64 t_351), (5, .int .i64 t_23), (4, .func (.func 25) #[] #[.pointer (some (⟨b_1, 0, .none⟩ : Addr))]), (2, .pointer (some (⟨b_5, 0, .none⟩ : Addr))), (1, .pointer (some (⟨b_1, 0, .none⟩ : Addr)))]) S tys tys_ok 1 (by kernel_rfl) ?_
      clear S; intro a S
      obtain ⟨q_378, eq_378, h⟩ := bindS h
      refine seg 8 (fun a_ w_ => St 184 a_ [(99, .bool q_378), (6, .int .i64 t_351), (5, .int .i64 t_23), (4, .func (.func 25) #[] #[.pointer (some (⟨b_1, 0, .none⟩ : Addr))]), (2, .pointer (some (⟨b_5, 0, .none⟩ : Addr))), (1, .pointer (some (⟨b_1, 0, .none⟩ : Addr)))] ∧ Wd w w_ [some b_5, some b_1] ∧ Bx (.sl (.int .u8)) 28 w_ (Kx K w.heap.size [some b_5, some b_1]) b_1 x0 ∧ Bx (.st (.pair (.int .u16) .raw)) 25 w_ (Kx K w.heap.size [some b_5, some b_1]) b_5 (0, (.slice .none 0 0))) ?_ ?_
      · by_cases hc : q_370 = false
        · rw [if_pos hc] at eq_378; rw [hc] at S
          refine wl_pure (l' := [(94, .int .i64 t_351), (93, .int .i64 t_23), (92, .func (.func 25) #[] #[.pointer (some (⟨b_1, 0, .none⟩ : Addr))]), (91, .bool false), (90, .bool false), (6, .int .i64 t_351), (5, .int .i64 t_23), (4, .func (.func 25) #[] #[.pointer (some (⟨b_1, 0, .none⟩ : Addr))]), (2, .pointer (some (⟨b_5, 0, .none⟩ : Addr))), (1, .pointer (some (⟨b_1, 0, .none⟩ : Addr)))]) S tys tys_ok 3 (by kernel_rfl) ?_
          clear S; intro a S
          obtain ⟨x_379, ex_379, eq_378⟩ := bindS eq_378
          refine w_go S rfl (op_arith S .i64 (t_23 + t_351) rfl (.inl rfl) rfl rfl rfl rfl ex_379 ?_)
          clear S; intro a S
          obtain ⟨x_380, ex_380, eq_378⟩ := bindS eq_378
          refine w_go S rfl (op_arith S .i64 (x_379 - 4) rfl (.inr (.inl rfl)) rfl rfl rfl rfl ex_380 ?_)
          clear S; intro a S
          obtain ⟨t_381, et_381, eq_378⟩ := bindS eq_378
          refine w_go S rfl (op_calld (vs := [.int .i64 x_380]) S rfl rfl cb25 rfl rfl rfl (c25 (Kx K w.heap.size [some b_5, some b_1]) n w_377 x_380 (ckI_some ex_380).2.1 _ x0 (Bx.br B_2) et_381) ?_)
          rintro _ w_385 ⟨v_382, rfl, R_383, hb_384⟩; refine ⟨_, rfl, ?_⟩
          replace R_383 := RepV.back R_383 W
          clear S; intro a S
          replace B_2 := B_2.step hb_384
          replace B_6 := B_6.step hb_384
          replace W := W.step hb_384
          obtain ⟨rfl, GR_383⟩ := RepV.int R_383
          refine wl_pure (l' := [(99, .bool (t_381 != 0)), (98, .bool (t_381 != 0)), (97, .int .i64 t_381), (96, .int .i64 x_380), (95, .int .i64 x_379), (94, .int .i64 t_351), (93, .int .i64 t_23), (92, .func (.func 25) #[] #[.pointer (some (⟨b_1, 0, .none⟩ : Addr))]), (91, .bool false), (90, .bool false), (6, .int .i64 t_351), (5, .int .i64 t_23), (4, .func (.func 25) #[] #[.pointer (some (⟨b_1, 0, .none⟩ : Addr))]), (2, .pointer (some (⟨b_5, 0, .none⟩ : Addr))), (1, .pointer (some (⟨b_1, 0, .none⟩ : Addr)))]) S tys tys_ok 2 (by kernel_rfl) ?_
          clear S; intro a S
          obtain rfl := Option.some.inj eq_378
          exact ⟨S.sub (by exact ⟨rfl, rfl, rfl, rfl, rfl, rfl, trivial⟩), W, B_2, B_6⟩
        · rw [if_neg hc] at eq_378; rw [show q_370 = true from (by simpa using hc)] at S
          refine wl_pure (l' := [(99, .bool true), (98, undef), (97, undef), (96, undef), (95, undef), (94, undef), (93, undef), (92, undef), (91, .bool true), (90, .bool true), (6, .int .i64 t_351), (5, .int .i64 t_23), (4, .func (.func 25) #[] #[.pointer (some (⟨b_1, 0, .none⟩ : Addr))]), (2, .pointer (some (⟨b_5, 0, .none⟩ : Addr))), (1, .pointer (some (⟨b_1, 0, .none⟩ : Addr)))]) S tys tys_ok 8 (by kernel_rfl) ?_
          clear S; intro a S
          obtain rfl := Option.some.inj eq_378
          exact ⟨S.sub (by exact ⟨rfl, rfl, rfl, rfl, rfl, rfl, trivial⟩), W, B_2, B_6⟩
      clear S W eq_378; rintro a w_386 ⟨S, W, B_2, B_6⟩
      refine wl_pure (l' := [(100, .bool q_378), (99, .bool q_378), (6, .int .i64 t_351), (5, .int .i64 t_23), (4, .func (.func 25) #[] #[.pointer (some (⟨b_1, 0, .none⟩ : Addr))]), (2, .pointer (some (⟨b_5, 0, .none⟩ : Addr))), (1, .pointer (some (⟨b_1, 0, .none⟩ : Addr)))]) S tys tys_ok 1 (by kernel_rfl) ?_
      clear S; intro a S
      obtain ⟨q_387, eq_387, h⟩ := bindS h
      refine seg 8 (fun a_ w_ => St 184 a_ [(108, .bool q_387), (6, .int .i64 t_351), (5, .int .i64 t_23), (4, .func (.func 25) #[] #[.pointer (some (⟨b_1, 0, .none⟩ : Addr))]), (2, .pointer (some (⟨b_5, 0, .none⟩ : Addr))), (1, .pointer (some (⟨b_1, 0, .none⟩ : Addr)))] ∧ Wd w w_ [some b_5, some b_1] ∧ Bx (.sl (.int .u8)) 28 w_ (Kx K w.heap.size [some b_5, some b_1]) b_1 x0 ∧ Bx (.st (.pair (.int .u16) .raw)) 25 w_ (Kx K w.heap.size [some b_5, some b_1]) b_5 (0, (.slice .none 0 0))) ?_ ?_
      · by_cases hc : q_378 = false
        · rw [if_pos hc] at eq_387; rw [hc] at S
          refine wl_pure (l' := [(103, .int .i64 t_351), (102, .int .i64 t_23), (101, .func (.func 25) #[] #[.pointer (some (⟨b_1, 0, .none⟩ : Addr))]), (100, .bool false), (99, .bool false), (6, .int .i64 t_351), (5, .int .i64 t_23), (4, .func (.func 25) #[] #[.pointer (some (⟨b_1, 0, .none⟩ : Addr))]), (2, .pointer (some (⟨b_5, 0, .none⟩ : Addr))), (1, .pointer (some (⟨b_1, 0, .none⟩ : Addr)))]) S tys tys_ok 3 (by kernel_rfl) ?_
          clear S; intro a S
          obtain ⟨x_388, ex_388, eq_387⟩ := bindS eq_387
          refine w_go S rfl (op_arith S .i64 (t_23 + t_351) rfl (.inl rfl) rfl rfl rfl rfl ex_388 ?_)
          clear S; intro a S
          obtain ⟨x_389, ex_389, eq_387⟩ := bindS eq_387
          refine w_go S rfl (op_arith S .i64 (x_388 - 2) rfl (.inr (.inl rfl)) rfl rfl rfl rfl ex_389 ?_)
          clear S; intro a S
          obtain ⟨t_390, et_390, eq_387⟩ := bindS eq_387
          refine w_go S rfl (op_calld (vs := [.int .i64 x_389]) S rfl rfl cb25 rfl rfl rfl (c25 (Kx K w.heap.size [some b_5, some b_1]) n w_386 x_389 (ckI_some ex_389).2.1 _ x0 (Bx.br B_2) et_390) ?_)
          rintro _ w_394 ⟨v_391, rfl, R_392, hb_393⟩; refine ⟨_, rfl, ?_⟩
          replace R_392 := RepV.back R_392 W
          clear S; intro a S
          replace B_2 := B_2.step hb_393
          replace B_6 := B_6.step hb_393
          replace W := W.step hb_393
          obtain ⟨rfl, GR_392⟩ := RepV.int R_392
          refine wl_pure (l' := [(108, .bool (t_390 != 0)), (107, .bool (t_390 != 0)), (106, .int .i64 t_390), (105, .int .i64 x_389), (104, .int .i64 x_388), (103, .int .i64 t_351), (102, .int .i64 t_23), (101, .func (.func 25) #[] #[.pointer (some (⟨b_1, 0, .none⟩ : Addr))]), (100, .bool false), (99, .bool false), (6, .int .i64 t_351), (5, .int .i64 t_23), (4, .func (.func 25) #[] #[.pointer (some (⟨b_1, 0, .none⟩ : Addr))]), (2, .pointer (some (⟨b_5, 0, .none⟩ : Addr))), (1, .pointer (some (⟨b_1, 0, .none⟩ : Addr)))]) S tys tys_ok 2 (by kernel_rfl) ?_
          clear S; intro a S
          obtain rfl := Option.some.inj eq_387
          exact ⟨S.sub (by exact ⟨rfl, rfl, rfl, rfl, rfl, rfl, trivial⟩), W, B_2, B_6⟩
        · rw [if_neg hc] at eq_387; rw [show q_378 = true from (by simpa using hc)] at S
          refine wl_pure (l' := [(108, .bool true), (107, undef), (106, undef), (105, undef), (104, undef), (103, undef), (102, undef), (101, undef), (100, .bool true), (99, .bool true), (6, .int .i64 t_351), (5, .int .i64 t_23), (4, .func (.func 25) #[] #[.pointer (some (⟨b_1, 0, .none⟩ : Addr))]), (2, .pointer (some (⟨b_5, 0, .none⟩ : Addr))), (1, .pointer (some (⟨b_1, 0, .none⟩ : Addr)))]) S tys tys_ok 8 (by kernel_rfl) ?_
          clear S; intro a S
          obtain rfl := Option.some.inj eq_387
          exact ⟨S.sub (by exact ⟨rfl, rfl, rfl, rfl, rfl, rfl, trivial⟩), W, B_2, B_6⟩
      clear S W eq_387; rintro a w_395 ⟨S, W, B_2, B_6⟩
      refine wpList_nil ?_
      refine then_n ?_
      refine wp_cond_split (S.eval (show ev _ _ = some (.bool q_387) from rfl)) ?_ ?_
      · intro hc
        rw [if_pos hc] at h
        refine wp_seq ?_
        refine wp_region_lit ?_
        refine w_go S rfl (op_build (K := (Kx K w.heap.size [some b_5, some b_1])) (f := (.pair (.int .u16) .raw)) (z0 := (0, (.slice .none 0 0))) (x := (0, (.slice .none 0 0))) (vs := []) S _ rfl tyw25_1 z25 (fun w K => ⟨[.int .u16 0], [.slice .none 0 0], rfl, ⟨rfl, by decide⟩, ⟨rfl, _, _, _, rfl⟩⟩) rfl rfl rfl [] rfl rfl ?_)
        clear S; intro a v_396 R_397 S
        refine w_go S rfl (op_store (t' := (.st (.pair (.int .u16) .raw))) S rfl rfl tyw25_1 rfl rfl rfl B_6 (by simp) Ln.whole R_397 ?_)
        intro w_398 hw_399 B_
        replace R_397 := R_397.wrote hw_399 (by simp)
        replace B_2 := B_2.wrote hw_399 (by simp) (W.bne (p := 1) (q := 0) (by decide) rfl rfl)
        replace W := W.wrote hw_399 (by simp)
        replace B_6 : Bx (.st (.pair (.int .u16) .raw)) 25 w_398 (Kx K w.heap.size [some b_5, some b_1]) b_5 (0, (.slice .none 0 0)) := B_; clear B_
        refine wl_pure (l' := [(3, .int .i64 4), (109, v_396), (108, .bool q_387), (6, .int .i64 t_351), (5, .int .i64 t_23), (4, .func (.func 25) #[] #[.pointer (some (⟨b_1, 0, .none⟩ : Addr))]), (2, .pointer (some (⟨b_5, 0, .none⟩ : Addr))), (1, .pointer (some (⟨b_1, 0, .none⟩ : Addr)))]) S tys tys_ok 1 (by kernel_rfl) ?_
        clear S; intro a S
        refine wpList_nil ?_
        refine then_n ?_
        replace S := S.sub (l' := [(3, .int .i64 4), (2, .pointer (some (⟨b_5, 0, .none⟩ : Addr)))]) (by exact ⟨rfl, rfl, trivial⟩)
        refine wp_ret ?_
        refine then_r ?_
        replace B_6 : Bx (.st (.pair (.int .u16) (.sl (.sl (.int .u8))))) 25 w_398 (Kx K w.heap.size [some b_5, some b_1]) b_5 (0, (⟨[], some 0⟩ : Sl (Sl (Int)))) := Bx.unraw (f := (.pair (.int .u16) (.sl (.sl (.int .u8))))) 1 (0, (⟨[], some 0⟩ : Sl (Sl (Int)))) rfl B_6 RepV.nil
        obtain ⟨v_400, hr_401, R_402⟩ := res_cell (P := Try.prog) (T := 25) (t := (.st (.pair (.int .u16) (.sl (.sl (.int .u8)))))) (x := (0, (⟨[], some 0⟩ : Sl (Sl (Int))))) S (s := 2) rfl ty25 B_6.at_
        obtain rfl := Option.some.inj h
        exact b_res2 S rfl hr_401 (res_tmp S rfl) ⟨_, _, rfl, R_402.out, (RepV.mkInt (by decide)), W.below⟩
      · intro hc
        rw [if_neg (Bool.eq_false_iff.1 hc)] at h
        refine wp_skip ?_
        refine then_n ?_
        replace S := S.sub (l' := [(6, .int .i64 t_351), (5, .int .i64 t_23), (4, .func (.func 25) #[] #[.pointer (some (⟨b_1, 0, .none⟩ : Addr))]), (2, .pointer (some (⟨b_5, 0, .none⟩ : Addr))), (1, .pointer (some (⟨b_1, 0, .none⟩ : Addr)))]) (by exact ⟨rfl, rfl, rfl, rfl, rfl, trivial⟩)
        refine wp_seq ?_
        refine wp_region_lit ?_
        refine wl_pure (l' := [(110, .func (.func 25) #[] #[.pointer (some (⟨b_1, 0, .none⟩ : Addr))]), (6, .int .i64 t_351), (5, .int .i64 t_23), (4, .func (.func 25) #[] #[.pointer (some (⟨b_1, 0, .none⟩ : Addr))]), (2, .pointer (some (⟨b_5, 0, .none⟩ : Addr))), (1, .pointer (some (⟨b_1, 0, .none⟩ : Addr)))]) S tys tys_ok 1 (by kernel_rfl) ?_
        clear S; intro a S
        obtain ⟨t_403, et_403, h⟩ := bindS h
        refine w_go S rfl (op_calld (vs := [.int .i64 6]) S rfl rfl cb25 rfl rfl rfl (c25 (Kx K w.heap.size [some b_5, some b_1]) n w_395 6 (by decide) _ x0 (Bx.br B_2) et_403) ?_)
        rintro _ w_407 ⟨v_404, rfl, R_405, hb_406⟩; refine ⟨_, rfl, ?_⟩
        replace R_405 := RepV.back R_405 W
        clear S; intro a S
        replace B_2 := B_2.step hb_406
        replace B_6 := B_6.step hb_406
        replace W := W.step hb_406
        obtain ⟨rfl, GR_405⟩ := RepV.int R_405
        refine wl_pure (l' := [(112, .int .u16 (IntKind.wrap .u16 t_403)), (111, .int .i64 t_403), (110, .func (.func 25) #[] #[.pointer (some (⟨b_1, 0, .none⟩ : Addr))]), (6, .int .i64 t_351), (5, .int .i64 t_23), (4, .func (.func 25) #[] #[.pointer (some (⟨b_1, 0, .none⟩ : Addr))]), (2, .pointer (some (⟨b_5, 0, .none⟩ : Addr))), (1, .pointer (some (⟨b_1, 0, .none⟩ : Addr)))]) S tys tys_ok 1 (by kernel_rfl) ?_
        clear S; intro a S
        refine w_go S rfl (op_build (K := (Kx K w.heap.size [some b_5, some b_1])) (f := (.pair (.int .u16) .raw)) (z0 := (0, (.slice .none 0 0))) (x := (IntKind.wrap .u16 t_403, (.slice .none 0 0))) (vs := [.int .u16 (IntKind.wrap .u16 t_403)]) S _ rfl tyw25_1 z25 (fun w K => ⟨[.int .u16 0], [.slice .none 0 0], rfl, ⟨rfl, by decide⟩, ⟨rfl, _, _, _, rfl⟩⟩) rfl rfl rfl [(0, .int .u16 (IntKind.wrap .u16 t_403))] rfl ⟨_, (RepV.mkInt (inR_wrap _ _)), rfl, rfl, rfl⟩ ?_)
        clear S; intro a v_408 R_409 S
        refine w_go S rfl (op_alloc (K := K) (n := w.heap.size) (L := [some b_5, some b_1]) (t := (.st (.pair (.int .u16) .raw))) (y := (0, (.slice .none 0 0))) S rfl rfl rfl _ z25 (fun w K => ⟨[.int .u16 0], [.slice .none 0 0], rfl, ⟨rfl, by decide⟩, ⟨rfl, _, _, _, rfl⟩⟩) ?_)
        clear S; intro a w_412 b_410 hb_413 B_411 S
        replace R_409 := R_409.box hb_413
        replace B_2 := B_2.box hb_413
        replace B_6 := B_6.box hb_413
        replace W := W.box hb_413
        refine w_go S rfl (op_store (t' := (.st (.pair (.int .u16) .raw))) S rfl rfl tyw25_1 rfl rfl rfl B_411 (by simp) Ln.whole R_409 ?_)
        intro w_414 hw_415 B_
        replace R_409 := R_409.wrote hw_415 (by simp)
        replace B_2 := B_2.wrote hw_415 (by simp) (W.bne (p := 2) (q := 0) (by decide) rfl rfl)
        replace B_6 := B_6.wrote hw_415 (by simp) (W.bne (p := 1) (q := 0) (by decide) rfl rfl)
        replace W := W.wrote hw_415 (by simp)
        replace B_411 : Bx (.st (.pair (.int .u16) .raw)) 25 w_414 (Kx K w.heap.size [some b_410, some b_5, some b_1]) b_410 (IntKind.wrap .u16 t_403, (.slice .none 0 0)) := B_; clear B_
        refine wpList_nil ?_
        refine then_n ?_
        replace S := S.sub (l' := [(7, .pointer (some (⟨b_410, 0, .none⟩ : Addr))), (6, .int .i64 t_351), (5, .int .i64 t_23), (4, .func (.func 25) #[] #[.pointer (some (⟨b_1, 0, .none⟩ : Addr))]), (2, .pointer (some (⟨b_5, 0, .none⟩ : Addr))), (1, .pointer (some (⟨b_1, 0, .none⟩ : Addr)))]) (by exact ⟨rfl, rfl, rfl, rfl, rfl, rfl, trivial⟩)
        refine wp_seq ?_
        refine wp_seq ?_
        refine wp_region_lit ?_
        refine wl_pure (l' := [(114, .int .i64 t_23), (7, .pointer (some (⟨b_410, 0, .none⟩ : Addr))), (6, .int .i64 t_351), (5, .int .i64 t_23), (4, .func (.func 25) #[] #[.pointer (some (⟨b_1, 0, .none⟩ : Addr))]), (2, .pointer (some (⟨b_5, 0, .none⟩ : Addr))), (1, .pointer (some (⟨b_1, 0, .none⟩ : Addr)))]) S tys tys_ok 1 (by kernel_rfl) ?_
        clear S; intro a S
        obtain ⟨x_416, ex_416, h⟩ := bindS h
        refine w_go S rfl (op_arith S .i64 (t_23 + 8) rfl (.inl rfl) rfl rfl rfl rfl ex_416 ?_)
        clear S; intro a S
        refine wl_pure (l' := [(8, .int .i64 x_416), (115, .int .i64 x_416), (114, .int .i64 t_23), (7, .pointer (some (⟨b_410, 0, .none⟩ : Addr))), (6, .int .i64 t_351), (5, .int .i64 t_23), (4, .func (.func 25) #[] #[.pointer (some (⟨b_1, 0, .none⟩ : Addr))]), (2, .pointer (some (⟨b_5, 0, .none⟩ : Addr))), (1, .pointer (some (⟨b_1, 0, .none⟩ : Addr)))]) S tys tys_ok 1 (by kernel_rfl) ?_
        clear S; intro a S
        refine wpList_nil ?_
        refine then_n ?_
        replace S := S.sub (l' := [(8, .int .i64 x_416), (7, .pointer (some (⟨b_410, 0, .none⟩ : Addr))), (6, .int .i64 t_351), (5, .int .i64 t_23), (4, .func (.func 25) #[] #[.pointer (some (⟨b_1, 0, .none⟩ : Addr))]), (2, .pointer (some (⟨b_5, 0, .none⟩ : Addr))), (1, .pointer (some (⟨b_1, 0, .none⟩ : Addr)))]) (by exact ⟨rfl, rfl, rfl, rfl, rfl, rfl, rfl, trivial⟩)
        obtain ⟨y_427, ey_427, h⟩ := bindS h
        refine wp_cut_ (fun a_ w_ => ∃ s_428 : (List (Sl (Int))), y_427 = .inl s_428 ∧ (∃ (v_429 : Value), St 184 a_ [(2, .pointer (some (⟨b_5, 0, .none⟩ : Addr))), (7, .pointer (some (⟨b_410, 0, .none⟩ : Addr)))] ∧ Wd w w_ [v_429.ownBlock, some b_410, some b_5, some b_1] ∧ Bx (.sl (.int .u8)) 28 w_ (Kx K w.heap.size [v_429.ownBlock, some b_410, some b_5, some b_1]) b_1 x0 ∧ Bx (.st (.pair (.int .u16) .raw)) 25 w_ (Kx K w.heap.size [v_429.ownBlock, some b_410, some b_5, some b_1]) b_5 (0, .slice .none 0 0) ∧ Bx (.st (.pair (.int .u16) .raw)) 25 w_ (Kx K w.heap.size [v_429.ownBlock, some b_410, some b_5, some b_1]) b_410 (IntKind.wrap .u16 t_403, v_429) ∧ Ow (.sl (.int .u8)) 28 w_ w.heap.size (Kx K w.heap.size [v_429.ownBlock, some b_410, some b_5, some b_1]) v_429 s_428 .none)) ?_ ?_
        · refine wp_block ?_
          refine wp_loop_n (fun m_ a_ w_ => ∃ (c_417 : Int) (c_419 : List (Sl (Int))) , ∃ (v_420 : Value), St 184 a_ [(8, .int .i64 c_417), (7, .pointer (some (⟨b_410, 0, .none⟩ : Addr))), (6, .int .i64 t_351), (5, .int .i64 t_23), (4, .func (.func 25) #[] #[.pointer (some (⟨b_1, 0, .none⟩ : Addr))]), (2, .pointer (some (⟨b_5, 0, .none⟩ : Addr))), (1, .pointer (some (⟨b_1, 0, .none⟩ : Addr)))] ∧ Wd w w_ [v_420.ownBlock, some b_410, some b_5, some b_1] ∧ InR .i64 c_417 ∧ Bx (.sl (.int .u8)) 28 w_ (Kx K w.heap.size [v_420.ownBlock, some b_410, some b_5, some b_1]) b_1 x0 ∧ Bx (.st (.pair (.int .u16) .raw)) 25 w_ (Kx K w.heap.size [v_420.ownBlock, some b_410, some b_5, some b_1]) b_5 (0, .slice .none 0 0) ∧ Bx (.st (.pair (.int .u16) .raw)) 25 w_ (Kx K w.heap.size [v_420.ownBlock, some b_410, some b_5, some b_1]) b_410 (IntKind.wrap .u16 t_403, v_420) ∧ Ow (.sl (.int .u8)) 28 w_ w.heap.size (Kx K w.heap.size [v_420.ownBlock, some b_410, some b_5, some b_1]) v_420 c_419 .none ∧ p12_l1 n x0 t_23 t_351 m_ c_417 c_419 = some y_427) n ?_ ?_
          · skip
            replace B_2 := B_2.more
            replace B_6 := B_6.more
            replace B_411 := B_411.more
            replace W := W.more
            have O_433 : Ow (.sl (.int .u8)) 28 w_414 w.heap.size (Kx K w.heap.size [.none, some b_410, some b_5, some b_1]) (.slice .none 0 0) ([] : List (Sl (Int))) (some 0) := Ow.nil
            exact ⟨x_416, [], ⟨(.slice .none 0 0), S.sub (by exact ⟨rfl, rfl, rfl, rfl, rfl, rfl, rfl, trivial⟩), W, (ckI_some ex_416).2.1, B_2, B_6, B_411, O_433.forget, ey_427⟩⟩
          · clear S W; rintro m_431 a w_434 ⟨c_417, c_419, v_420, S, W, G_418, B_2, B_6, B_411, O_421, hl_432⟩
            cases m_431 with
            | zero => exact absurd hl_432 (by simp [p12_l1])
            | succ m_431 =>
              refine ⟨m_431, rfl, ?_⟩
              rw [p12_l1] at hl_432
              refine wp_seq ?_
              refine wp_seq ?_
              refine wp_region_lit ?_
              refine wl_pure (l' := [(118, .int .i64 t_351), (117, .int .i64 t_23), (116, .int .i64 c_417), (8, .int .i64 c_417), (7, .pointer (some (⟨b_410, 0, .none⟩ : Addr))), (6, .int .i64 t_351), (5, .int .i64 t_23), (4, .func (.func 25) #[] #[.pointer (some (⟨b_1, 0, .none⟩ : Addr))]), (2, .pointer (some (⟨b_5, 0, .none⟩ : Addr))), (1, .pointer (some (⟨b_1, 0, .none⟩ : Addr)))]) S tys tys_ok 3 (by kernel_rfl) ?_
              clear S; intro a S
              obtain ⟨x_435, ex_435, hl_432⟩ := bindS hl_432
              refine w_go S rfl (op_arith S .i64 (t_23 + t_351) rfl (.inl rfl) rfl rfl rfl rfl ex_435 ?_)
              clear S; intro a S
              obtain ⟨x_436, ex_436, hl_432⟩ := bindS hl_432
              refine w_go S rfl (op_arith S .i64 (x_435 - 4) rfl (.inr (.inl rfl)) rfl rfl rfl rfl ex_436 ?_)
              clear S; intro a S
              refine wl_pure (l' := [(121, .bool (decide (c_417 < x_436))), (120, .int .i64 x_436), (119, .int .i64 x_435), (118, .int .i64 t_351), (117, .int .i64 t_23), (116, .int .i64 c_417), (8, .int .i64 c_417), (7, .pointer (some (⟨b_410, 0, .none⟩ : Addr))), (6, .int .i64 t_351), (5, .int .i64 t_23), (4, .func (.func 25) #[] #[.pointer (some (⟨b_1, 0, .none⟩ : Addr))]), (2, .pointer (some (⟨b_5, 0, .none⟩ : Addr))), (1, .pointer (some (⟨b_1, 0, .none⟩ : Addr)))]) S tys tys_ok 1 (by kernel_rfl) ?_
              clear S; intro a S
              refine wpList_nil ?_
              refine then_n ?_
              replace S := S.sub (l' := [(121, .bool (decide (c_417 < x_436))), (8, .int .i64 c_417), (7, .pointer (some (⟨b_410, 0, .none⟩ : Addr))), (6, .int .i64 t_351), (5, .int .i64 t_23), (4, .func (.func 25) #[] #[.pointer (some (⟨b_1, 0, .none⟩ : Addr))]), (2, .pointer (some (⟨b_5, 0, .none⟩ : Addr))), (1, .pointer (some (⟨b_1, 0, .none⟩ : Addr)))]) (by exact ⟨rfl, rfl, rfl, rfl, rfl, rfl, rfl, rfl, trivial⟩)
              refine wp_cond_split (S.eval (show ev _ _ = some (.bool (decide (c_417 < x_436))) from rfl)) ?_ ?_
              · intro hc
                rw [if_pos hc] at hl_432
                refine wp_skip ?_
                refine then_n ?_
                replace S := S.sub (l' := [(8, .int .i64 c_417), (7, .pointer (some (⟨b_410, 0, .none⟩ : Addr))), (6, .int .i64 t_351), (5, .int .i64 t_23), (4, .func (.func 25) #[] #[.pointer (some (⟨b_1, 0, .none⟩ : Addr))]), (2, .pointer (some (⟨b_5, 0, .none⟩ : Addr))), (1, .pointer (some (⟨b_1, 0, .none⟩ : Addr)))]) (by exact ⟨rfl, rfl, rfl, rfl, rfl, rfl, rfl, trivial⟩)
                refine wp_seq ?_
                refine wp_block ?_
                refine wp_seq ?_
                refine wp_region_lit ?_
                refine wl_pure (l' := [(125, .int .i64 c_417), (124, .func (.func 25) #[] #[.pointer (some (⟨b_1, 0, .none⟩ : Addr))]), (8, .int .i64 c_417), (7, .pointer (some (⟨b_410, 0, .none⟩ : Addr))), (6, .int .i64 t_351), (5, .int .i64 t_23), (4, .func (.func 25) #[] #[.pointer (some (⟨b_1, 0, .none⟩ : Addr))]), (2, .pointer (some (⟨b_5, 0, .none⟩ : Addr))), (1, .pointer (some (⟨b_1, 0, .none⟩ : Addr)))]) S tys tys_ok 2 (by kernel_rfl) ?_
                clear S; intro a S
                obtain ⟨t_437, et_437, hl_432⟩ := bindS hl_432
                refine w_go S rfl (op_calld (vs := [.int .i64 c_417]) S rfl rfl cb25 rfl rfl rfl (c25 (Kx K w.heap.size [v_420.ownBlock, some b_410, some b_5, some b_1]) n w_434 c_417 G_418 _ x0 (Bx.br B_2) et_437) ?_)
                rintro _ w_441 ⟨v_438, rfl, R_439, hb_440⟩; refine ⟨_, rfl, ?_⟩
                replace R_439 := RepV.back R_439 W
                clear S; intro a S
                replace B_2 := B_2.step hb_440
                replace B_6 := B_6.step hb_440
                replace B_411 := B_411.step hb_440
                replace O_421 := O_421.step hb_440
                replace W := W.step hb_440
                obtain ⟨rfl, GR_439⟩ := RepV.int R_439
                refine wl_pure (l' := [(128, .int .i64 c_417), (127, .func (.func 25) #[] #[.pointer (some (⟨b_1, 0, .none⟩ : Addr))]), (126, .int .i64 t_437), (125, .int .i64 c_417), (124, .func (.func 25) #[] #[.pointer (some (⟨b_1, 0, .none⟩ : Addr))]), (8, .int .i64 c_417), (7, .pointer (some (⟨b_410, 0, .none⟩ : Addr))), (6, .int .i64 t_351), (5, .int .i64 t_23), (4, .func (.func 25) #[] #[.pointer (some (⟨b_1, 0, .none⟩ : Addr))]), (2, .pointer (some (⟨b_5, 0, .none⟩ : Addr))), (1, .pointer (some (⟨b_1, 0, .none⟩ : Addr)))]) S tys tys_ok 2 (by kernel_rfl) ?_
                clear S; intro a S
                obtain ⟨x_442, ex_442, hl_432⟩ := bindS hl_432
                refine w_go S rfl (op_arith S .i64 (c_417 + 2) rfl (.inl rfl) rfl rfl rfl rfl ex_442 ?_)
                clear S; intro a S
                obtain ⟨t_443, et_443, hl_432⟩ := bindS hl_432
                refine w_go S rfl (op_calld (vs := [.int .i64 x_442]) S rfl rfl cb25 rfl rfl rfl (c25 (Kx K w.heap.size [v_420.ownBlock, some b_410, some b_5, some b_1]) n w_441 x_442 (ckI_some ex_442).2.1 _ x0 (Bx.br B_2) et_443) ?_)
                rintro _ w_447 ⟨v_444, rfl, R_445, hb_446⟩; refine ⟨_, rfl, ?_⟩
                replace R_445 := RepV.back R_445 W
                clear S; intro a S
                replace B_2 := B_2.step hb_446
                replace B_6 := B_6.step hb_446
                replace B_411 := B_411.step hb_446
                replace O_421 := O_421.step hb_446
                replace W := W.step hb_446
                obtain ⟨rfl, GR_445⟩ := RepV.int R_445
                refine wl_pure (l' := [(10, .int .i64 t_443), (9, .int .i64 t_437), (130, .int .i64 t_443), (129, .int .i64 x_442), (128, .int .i64 c_417), (127, .func (.func 25) #[] #[.pointer (some (⟨b_1, 0, .none⟩ : Addr))]), (126, .int .i64 t_437), (125, .int .i64 c_417), (124, .func (.func 25) #[] #[.pointer (some (⟨b_1, 0, .none⟩ : Addr))]), (8, .int .i64 c_417), (7, .pointer (some (⟨b_410, 0, .none⟩ : Addr))), (6, .int .i64 t_351), (5, .int .i64 t_23), (4, .func (.func 25) #[] #[.pointer (some (⟨b_1, 0, .none⟩ : Addr))]), (2, .pointer (some (⟨b_5, 0, .none⟩ : Addr))), (1, .pointer (some (⟨b_1, 0, .none⟩ : Addr)))]) S tys tys_ok 2 (by kernel_rfl) ?_
                clear S; intro a S
                refine wpList_nil ?_
                refine then_n ?_
                replace S := S.sub (l' := [(10, .int .i64 t_443), (9, .int .i64 t_437), (8, .int .i64 c_417), (7, .pointer (some (⟨b_410, 0, .none⟩ : Addr))), (6, .int .i64 t_351), (5, .int .i64 t_23), (4, .func (.func 25) #[] #[.pointer (some (⟨b_1, 0, .none⟩ : Addr))]), (2, .pointer (some (⟨b_5, 0, .none⟩ : Addr))), (1, .pointer (some (⟨b_1, 0, .none⟩ : Addr)))]) (by exact ⟨rfl, rfl, rfl, rfl, rfl, rfl, rfl, rfl, rfl, trivial⟩)
                refine wp_seq ?_
                refine wp_seq ?_
                refine wp_region_lit ?_
                refine wl_pure (l' := [(133, .bool (t_437 == 0)), (132, .bool (t_437 == 0)), (131, .int .i64 t_437), (10, .int .i64 t_443), (9, .int .i64 t_437), (8, .int .i64 c_417), (7, .pointer (some (⟨b_410, 0, .none⟩ : Addr))), (6, .int .i64 t_351), (5, .int .i64 t_23), (4, .func (.func 25) #[] #[.pointer (some (⟨b_1, 0, .none⟩ : Addr))]), (2, .pointer (some (⟨b_5, 0, .none⟩ : Addr))), (1, .pointer (some (⟨b_1, 0, .none⟩ : Addr)))]) S tys tys_ok 3 (by kernel_rfl) ?_
                clear S; intro a S
                obtain ⟨q_448, eq_448, hl_432⟩ := bindS hl_432
                refine seg 3 (fun a_ w_ => w_447 = w_ ∧ St 184 a_ [(136, .bool q_448), (10, .int .i64 t_443), (9, .int .i64 t_437), (8, .int .i64 c_417), (7, .pointer (some (⟨b_410, 0, .none⟩ : Addr))), (6, .int .i64 t_351), (5, .int .i64 t_23), (4, .func (.func 25) #[] #[.pointer (some (⟨b_1, 0, .none⟩ : Addr))]), (2, .pointer (some (⟨b_5, 0, .none⟩ : Addr))), (1, .pointer (some (⟨b_1, 0, .none⟩ : Addr)))]) ?_ ?_
                · by_cases hc : (t_437 == 0) = true
                  · rw [if_pos hc] at eq_448; rw [hc] at S
                    refine wl_pure (l' := [(136, .bool (t_443 == 0)), (135, .bool (t_443 == 0)), (134, .int .i64 t_443), (133, .bool true), (132, .bool true), (131, .int .i64 t_437), (10, .int .i64 t_443), (9, .int .i64 t_437), (8, .int .i64 c_417), (7, .pointer (some (⟨b_410, 0, .none⟩ : Addr))), (6, .int .i64 t_351), (5, .int .i64 t_23), (4, .func (.func 25) #[] #[.pointer (some (⟨b_1, 0, .none⟩ : Addr))]), (2, .pointer (some (⟨b_5, 0, .none⟩ : Addr))), (1, .pointer (some (⟨b_1, 0, .none⟩ : Addr)))]) S tys tys_ok 3 (by kernel_rfl) ?_
                    clear S; intro a S
                    obtain rfl := Option.some.inj eq_448
                    exact ⟨rfl, S.sub (by exact ⟨rfl, rfl, rfl, rfl, rfl, rfl, rfl, rfl, rfl, rfl, trivial⟩)⟩
                  · rw [if_neg hc] at eq_448; rw [show (t_437 == 0) = false from Bool.eq_false_iff.2 hc] at S
                    refine wl_pure (l' := [(136, .bool false), (135, undef), (134, undef), (133, .bool false), (132, .bool false), (131, .int .i64 t_437), (10, .int .i64 t_443), (9, .int .i64 t_437), (8, .int .i64 c_417), (7, .pointer (some (⟨b_410, 0, .none⟩ : Addr))), (6, .int .i64 t_351), (5, .int .i64 t_23), (4, .func (.func 25) #[] #[.pointer (some (⟨b_1, 0, .none⟩ : Addr))]), (2, .pointer (some (⟨b_5, 0, .none⟩ : Addr))), (1, .pointer (some (⟨b_1, 0, .none⟩ : Addr)))]) S tys tys_ok 3 (by kernel_rfl) ?_
                    clear S; intro a S
                    obtain rfl := Option.some.inj eq_448
                    exact ⟨rfl, S.sub (by exact ⟨rfl, rfl, rfl, rfl, rfl, rfl, rfl, rfl, rfl, rfl, trivial⟩)⟩
                clear S eq_448; rintro a _ ⟨rfl, S⟩
                refine wpList_nil ?_
                refine then_n ?_
                refine wp_cond_split (S.eval (show ev _ _ = some (.bool q_448) from rfl)) ?_ ?_
                · intro hc
                  rw [if_pos hc] at hl_432
                  refine wp_exit ?_
                  refine then_x ?_
                  refine blk_miss rfl ?_
                  refine then_x ?_
                  refine then_x ?_
                  refine blk_hit ?_
                  refine then_n ?_
                  obtain rfl := Option.some.inj hl_432
                  exact ⟨_, rfl, ⟨v_420, S.sub (by exact ⟨rfl, rfl, trivial⟩), W, B_2, B_6, B_411, O_421⟩⟩
                · intro hc
                  rw [if_neg (Bool.eq_false_iff.1 hc)] at hl_432
                  refine wp_skip ?_
                  refine then_n ?_
                  replace S := S.sub (l' := [(10, .int .i64 t_443), (9, .int .i64 t_437), (8, .int .i64 c_417), (7, .pointer (some (⟨b_410, 0, .none⟩ : Addr))), (6, .int .i64 t_351), (5, .int .i64 t_23), (4, .func (.func 25) #[] #[.pointer (some (⟨b_1, 0, .none⟩ : Addr))]), (2, .pointer (some (⟨b_5, 0, .none⟩ : Addr))), (1, .pointer (some (⟨b_1, 0, .none⟩ : Addr)))]) (by exact ⟨rfl, rfl, rfl, rfl, rfl, rfl, rfl, rfl, rfl, trivial⟩)
                  refine wp_seq ?_
                  refine wp_seq ?_
                  refine wp_region_lit ?_
                  refine wl_pure (l' := [(139, .bool (decide (t_437 < 12))), (138, .bool (decide (t_437 < 12))), (137, .int .i64 t_437), (10, .int .i64 t_443), (9, .int .i64 t_437), (8, .int .i64 c_417), (7, .pointer (some (⟨b_410, 0, .none⟩ : Addr))), (6, .int .i64 t_351), (5, .int .i64 t_23), (4, .func (.func 25) #[] #[.pointer (some (⟨b_1, 0, .none⟩ : Addr))]), (2, .pointer (some (⟨b_5, 0, .none⟩ : Addr))), (1, .pointer (some (⟨b_1, 0, .none⟩ : Addr)))]) S tys tys_ok 3 (by kernel_rfl) ?_
                  clear S; intro a S
                  obtain ⟨q_449, eq_449, hl_432⟩ := bindS hl_432
                  refine seg 4 (fun a_ w_ => w_447 = w_ ∧ St 184 a_ [(143, .bool q_449), (10, .int .i64 t_443), (9, .int .i64 t_437), (8, .int .i64 c_417), (7, .pointer (some (⟨b_410, 0, .none⟩ : Addr))), (6, .int .i64 t_351), (5, .int .i64 t_23), (4, .func (.func 25) #[] #[.pointer (some (⟨b_1, 0, .none⟩ : Addr))]), (2, .pointer (some (⟨b_5, 0, .none⟩ : Addr))), (1, .pointer (some (⟨b_1, 0, .none⟩ : Addr)))]) ?_ ?_
                  · by_cases hc : (decide (t_437 < 12)) = false
                    · rw [if_pos hc] at eq_449; rw [hc] at S
                      refine wl_pure (l' := [(140, .int .i64 t_437), (139, .bool false), (138, .bool false), (137, .int .i64 t_437), (10, .int .i64 t_443), (9, .int .i64 t_437), (8, .int .i64 c_417), (7, .pointer (some (⟨b_410, 0, .none⟩ : Addr))), (6, .int .i64 t_351), (5, .int .i64 t_23), (4, .func (.func 25) #[] #[.pointer (some (⟨b_1, 0, .none⟩ : Addr))]), (2, .pointer (some (⟨b_5, 0, .none⟩ : Addr))), (1, .pointer (some (⟨b_1, 0, .none⟩ : Addr)))]) S tys tys_ok 1 (by kernel_rfl) ?_
                      clear S; intro a S
                      obtain ⟨x_450, ex_450, eq_449⟩ := bindS eq_449
                      refine w_go S rfl (op_rem S .i64 rfl rfl rfl rfl rfl ex_450 ?_)
                      clear S; intro a S
                      refine wl_pure (l' := [(143, .bool (x_450 != 0)), (142, .bool (x_450 != 0)), (141, .int .i64 x_450), (140, .int .i64 t_437), (139, .bool false), (138, .bool false), (137, .int .i64 t_437), (10, .int .i64 t_443), (9, .int .i64 t_437), (8, .int .i64 c_417), (7, .pointer (some (⟨b_410, 0, .none⟩ : Addr))), (6, .int .i64 t_351), (5, .int .i64 t_23), (4, .func (.func 25) #[] #[.pointer (some (⟨b_1, 0, .none⟩ : Addr))]), (2, .pointer (some (⟨b_5, 0, .none⟩ : Addr))), (1, .pointer (some (⟨b_1, 0, .none⟩ : Addr)))]) S tys tys_ok 2 (by kernel_rfl) ?_
                      clear S; intro a S
                      obtain rfl := Option.some.inj eq_449
                      exact ⟨rfl, S.sub (by exact ⟨rfl, rfl, rfl, rfl, rfl, rfl, rfl, rfl, rfl, rfl, trivial⟩)⟩
                    · rw [if_neg hc] at eq_449; rw [show (decide (t_437 < 12)) = true from (by simpa using hc)] at S
                      refine wl_pure (l' := [(143, .bool true), (142, undef), (141, undef), (140, undef), (139, .bool true), (138, .bool true), (137, .int .i64 t_437), (10, .int .i64 t_443), (9, .int .i64 t_437), (8, .int .i64 c_417), (7, .pointer (some (⟨b_410, 0, .none⟩ : Addr))), (6, .int .i64 t_351), (5, .int .i64 t_23), (4, .func (.func 25) #[] #[.pointer (some (⟨b_1, 0, .none⟩ : Addr))]), (2, .pointer (some (⟨b_5, 0, .none⟩ : Addr))), (1, .pointer (some (⟨b_1, 0, .none⟩ : Addr)))]) S tys tys_ok 4 (by kernel_rfl) ?_
                      clear S; intro a S
                      obtain rfl := Option.some.inj eq_449
                      exact ⟨rfl, S.sub (by exact ⟨rfl, rfl, rfl, rfl, rfl, rfl, rfl, rfl, rfl, rfl, trivial⟩)⟩
                  clear S eq_449; rintro a _ ⟨rfl, S⟩
                  refine wl_pure (l' := [(144, .bool q_449), (143, .bool q_449), (10, .int .i64 t_443), (9, .int .i64 t_437), (8, .int .i64 c_417), (7, .pointer (some (⟨b_410, 0, .none⟩ : Addr))), (6, .int .i64 t_351), (5, .int .i64 t_23), (4, .func (.func 25) #[] #[.pointer (some (⟨b_1, 0, .none⟩ : Addr))]), (2, .pointer (some (⟨b_5, 0, .none⟩ : Addr))), (1, .pointer (some (⟨b_1, 0, .none⟩ : Addr)))]) S tys tys_ok 1 (by kernel_rfl) ?_
                  clear S; intro a S
                  obtain ⟨q_451, eq_451, hl_432⟩ := bindS hl_432
                  refine seg 3 (fun a_ w_ => w_447 = w_ ∧ St 184 a_ [(147, .bool q_451), (10, .int .i64 t_443), (9, .int .i64 t_437), (8, .int .i64 c_417), (7, .pointer (some (⟨b_410, 0, .none⟩ : Addr))), (6, .int .i64 t_351), (5, .int .i64 t_23), (4, .func (.func 25) #[] #[.pointer (some (⟨b_1, 0, .none⟩ : Addr))]), (2, .pointer (some (⟨b_5, 0, .none⟩ : Addr))), (1, .pointer (some (⟨b_1, 0, .none⟩ : Addr)))]) ?_ ?_
                  · by_cases hc : q_449 = false
                    · rw [if_pos hc] at eq_451; rw [hc] at S
                      refine wl_pure (l' := [(147, .bool (decide (t_443 < 1))), (146, .bool (decide (t_443 < 1))), (145, .int .i64 t_443), (144, .bool false), (143, .bool false), (10, .int .i64 t_443), (9, .int .i64 t_437), (8, .int .i64 c_417), (7, .pointer (some (⟨b_410, 0, .none⟩ : Addr))), (6, .int .i64 t_351), (5, .int .i64 t_23), (4, .func (.func 25) #[] #[.pointer (some (⟨b_1, 0, .none⟩ : Addr))]), (2, .pointer (some (⟨b_5, 0, .none⟩ : Addr))), (1, .pointer (some (⟨b_1, 0, .none⟩ : Addr)))]) S tys tys_ok 3 (by kernel_rfl) ?_
                      clear S; intro a S
                      obtain rfl := Option.some.inj eq_451
                      exact ⟨rfl, S.sub (by exact ⟨rfl, rfl, rfl, rfl, rfl, rfl, rfl, rfl, rfl, rfl, trivial⟩)⟩
                    · rw [if_neg hc] at eq_451; rw [show q_449 = true from (by simpa using hc)] at S
                      refine wl_pure (l' := [(147, .bool true), (146, undef), (145, undef), (144, .bool true), (143, .bool true), (10, .int .i64 t_443), (9, .int .i64 t_437), (8, .int .i64 c_417), (7, .pointer (some (⟨b_410, 0, .none⟩ : Addr))), (6, .int .i64 t_351), (5, .int .i64 t_23), (4, .func (.func 25) #[] #[.pointer (some (⟨b_1, 0, .none⟩ : Addr))]), (2, .pointer (some (⟨b_5, 0, .none⟩ : Addr))), (1, .pointer (some (⟨b_1, 0, .none⟩ : Addr)))]) S tys tys_ok 3 (by kernel_rfl) ?_
                      clear S; intro a S
                      obtain rfl := Option.some.inj eq_451
                      exact ⟨rfl, S.sub (by exact ⟨rfl, rfl, rfl, rfl, rfl, rfl, rfl, rfl, rfl, rfl, trivial⟩)⟩
                  clear S eq_451; rintro a _ ⟨rfl, S⟩
                  refine wl_pure (l' := [(148, .bool q_451), (147, .bool q_451), (10, .int .i64 t_443), (9, .int .i64 t_437), (8, .int .i64 c_417), (7, .pointer (some (⟨b_410, 0, .none⟩ : Addr))), (6, .int .i64 t_351), (5, .int .i64 t_23), (4, .func (.func 25) #[] #[.pointer (some (⟨b_1, 0, .none⟩ : Addr))]), (2, .pointer (some (⟨b_5, 0, .none⟩ : Addr))), (1, .pointer (some (⟨b_1, 0, .none⟩ : Addr)))]) S tys tys_ok 1 (by kernel_rfl) ?_
                  clear S; intro a S
                  obtain ⟨q_452, eq_452, hl_432⟩ := bindS hl_432
                  refine seg 3 (fun a_ w_ => w_447 = w_ ∧ St 184 a_ [(151, .bool q_452), (10, .int .i64 t_443), (9, .int .i64 t_437), (8, .int .i64 c_417), (7, .pointer (some (⟨b_410, 0, .none⟩ : Addr))), (6, .int .i64 t_351), (5, .int .i64 t_23), (4, .func (.func 25) #[] #[.pointer (some (⟨b_1, 0, .none⟩ : Addr))]), (2, .pointer (some (⟨b_5, 0, .none⟩ : Addr))), (1, .pointer (some (⟨b_1, 0, .none⟩ : Addr)))]) ?_ ?_
                  · by_cases hc : q_451 = false
                    · rw [if_pos hc] at eq_452; rw [hc] at S
                      refine wl_pure (l' := [(151, .bool (decide (t_443 > 1514))), (150, .bool (decide (t_443 > 1514))), (149, .int .i64 t_443), (148, .bool false), (147, .bool false), (10, .int .i64 t_443), (9, .int .i64 t_437), (8, .int .i64 c_417), (7, .pointer (some (⟨b_410, 0, .none⟩ : Addr))), (6, .int .i64 t_351), (5, .int .i64 t_23), (4, .func (.func 25) #[] #[.pointer (some (⟨b_1, 0, .none⟩ : Addr))]), (2, .pointer (some (⟨b_5, 0, .none⟩ : Addr))), (1, .pointer (some (⟨b_1, 0, .none⟩ : Addr)))]) S tys tys_ok 3 (by kernel_rfl) ?_
                      clear S; intro a S
                      obtain rfl := Option.some.inj eq_452
                      exact ⟨rfl, S.sub (by exact ⟨rfl, rfl, rfl, rfl, rfl, rfl, rfl, rfl, rfl, rfl, trivial⟩)⟩
                    · rw [if_neg hc] at eq_452; rw [show q_451 = true from (by simpa using hc)] at S
                      refine wl_pure (l' := [(151, .bool true), (150, undef), (149, undef), (148, .bool true), (147, .bool true), (10, .int .i64 t_443), (9, .int .i64 t_437), (8, .int .i64 c_417), (7, .pointer (some (⟨b_410, 0, .none⟩ : Addr))), (6, .int .i64 t_351), (5, .int .i64 t_23), (4, .func (.func 25) #[] #[.pointer (some (⟨b_1, 0, .none⟩ : Addr))]), (2, .pointer (some (⟨b_5, 0, .none⟩ : Addr))), (1, .pointer (some (⟨b_1, 0, .none⟩ : Addr)))]) S tys tys_ok 3 (by kernel_rfl) ?_
                      clear S; intro a S
                      obtain rfl := Option.some.inj eq_452
                      exact ⟨rfl, S.sub (by exact ⟨rfl, rfl, rfl, rfl, rfl, rfl, rfl, rfl, rfl, rfl, trivial⟩)⟩
                  clear S eq_452; rintro a _ ⟨rfl, S⟩
                  refine wl_pure (l' := [(152, .bool q_452), (151, .bool q_452), (10, .int .i64 t_443), (9, .int .i64 t_437), (8, .int .i64 c_417), (7, .pointer (some (⟨b_410, 0, .none⟩ : Addr))), (6, .int .i64 t_351), (5, .int .i64 t_23), (4, .func (.func 25) #[] #[.pointer (some (⟨b_1, 0, .none⟩ : Addr))]), (2, .pointer (some (⟨b_5, 0, .none⟩ : Addr))), (1, .pointer (some (⟨b_1, 0, .none⟩ : Addr)))]) S tys tys_ok 1 (by kernel_rfl) ?_
                  clear S; intro a S
                  obtain ⟨q_453, eq_453, hl_432⟩ := bindS hl_432
                  refine seg 7 (fun a_ w_ => w_447 = w_ ∧ St 184 a_ [(159, .bool q_453), (10, .int .i64 t_443), (9, .int .i64 t_437), (8, .int .i64 c_417), (7, .pointer (some (⟨b_410, 0, .none⟩ : Addr))), (6, .int .i64 t_351), (5, .int .i64 t_23), (4, .func (.func 25) #[] #[.pointer (some (⟨b_1, 0, .none⟩ : Addr))]), (2, .pointer (some (⟨b_5, 0, .none⟩ : Addr))), (1, .pointer (some (⟨b_1, 0, .none⟩ : Addr)))]) ?_ ?_
                  · by_cases hc : q_452 = false
                    · rw [if_pos hc] at eq_453; rw [hc] at S
                      refine wl_pure (l' := [(154, .int .i64 t_443), (153, .int .i64 t_437), (152, .bool false), (151, .bool false), (10, .int .i64 t_443), (9, .int .i64 t_437), (8, .int .i64 c_417), (7, .pointer (some (⟨b_410, 0, .none⟩ : Addr))), (6, .int .i64 t_351), (5, .int .i64 t_23), (4, .func (.func 25) #[] #[.pointer (some (⟨b_1, 0, .none⟩ : Addr))]), (2, .pointer (some (⟨b_5, 0, .none⟩ : Addr))), (1, .pointer (some (⟨b_1, 0, .none⟩ : Addr)))]) S tys tys_ok 2 (by kernel_rfl) ?_
                      clear S; intro a S
                      obtain ⟨x_454, ex_454, eq_453⟩ := bindS eq_453
                      refine w_go S rfl (op_arith S .i64 (t_437 + t_443) rfl (.inl rfl) rfl rfl rfl rfl ex_454 ?_)
                      clear S; intro a S
                      refine w_go S rfl (op_load (t := (.sl (.int .u8))) (x := x0) S rfl ty28 rfl rfl rfl B_2.at_ ?_)
                      clear S; intro a v_455 R_456 S
                      refine w_go S rfl (op_len (K := _) S rfl ty28 rfl rfl rfl R_456 ?_)
                      clear S; intro a G_457 S
                      refine wl_pure (l' := [(159, .bool (decide (x_454 > (lenI x0)))), (158, .bool (decide (x_454 > (lenI x0)))), (157, .int .i64 (lenI x0)), (156, v_455), (155, .int .i64 x_454), (154, .int .i64 t_443), (153, .int .i64 t_437), (152, .bool false), (151, .bool false), (10, .int .i64 t_443), (9, .int .i64 t_437), (8, .int .i64 c_417), (7, .pointer (some (⟨b_410, 0, .none⟩ : Addr))), (6, .int .i64 t_351), (5, .int .i64 t_23), (4, .func (.func 25) #[] #[.pointer (some (⟨b_1, 0, .none⟩ : Addr))]), (2, .pointer (some (⟨b_5, 0, .none⟩ : Addr))), (1, .pointer (some (⟨b_1, 0, .none⟩ : Addr)))]) S tys tys_ok 2 (by kernel_rfl) ?_
                      clear S; intro a S
                      obtain rfl := Option.some.inj eq_453
                      exact ⟨rfl, S.sub (by exact ⟨rfl, rfl, rfl, rfl, rfl, rfl, rfl, rfl, rfl, rfl, trivial⟩)⟩
                    · rw [if_neg hc] at eq_453; rw [show q_452 = true from (by simpa using hc)] at S
                      refine wl_pure (l' := [(159, .bool true), (158, undef), (157, undef), (156, undef), (155, undef), (154, undef), (153, undef), (152, .bool true), (151, .bool true), (10, .int .i64 t_443), (9, .int .i64 t_437), (8, .int .i64 c_417), (7, .pointer (some (⟨b_410, 0, .none⟩ : Addr))), (6, .int .i64 t_351), (5, .int .i64 t_23), (4, .func (.func 25) #[] #[.pointer (some (⟨b_1, 0, .none⟩ : Addr))]), (2, .pointer (some (⟨b_5, 0, .none⟩ : Addr))), (1, .pointer (some (⟨b_1, 0, .none⟩ : Addr)))]) S tys tys_ok 7 (by kernel_rfl) ?_
                      clear S; intro a S
                      obtain rfl := Option.some.inj eq_453
                      exact ⟨rfl, S.sub (by exact ⟨rfl, rfl, rfl, rfl, rfl, rfl, rfl, rfl, rfl, rfl, trivial⟩)⟩
                  clear S eq_453; rintro a _ ⟨rfl, S⟩
                  refine wpList_nil ?_
                  refine then_n ?_
                  refine wp_cond_split (S.eval (show ev _ _ = some (.bool q_453) from rfl)) ?_ ?_
                  · intro hc
                    rw [if_pos hc] at hl_432
                    refine wp_seq ?_
                    refine wp_region_lit ?_
                    refine w_go S rfl (op_build (K := (Kx K w.heap.size [v_420.ownBlock, some b_410, some b_5, some b_1])) (f := (.pair (.int .u16) .raw)) (z0 := (0, (.slice .none 0 0))) (x := (0, (.slice .none 0 0))) (vs := []) S _ rfl tyw25_1 z25 (fun w K => ⟨[.int .u16 0], [.slice .none 0 0], rfl, ⟨rfl, by decide⟩, ⟨rfl, _, _, _, rfl⟩⟩) rfl rfl rfl [] rfl rfl ?_)
                    clear S; intro a v_458 R_459 S
                    refine w_go S rfl (op_store (t' := (.st (.pair (.int .u16) .raw))) S rfl rfl tyw25_1 rfl rfl rfl B_6 (by simp) Ln.whole R_459 ?_)
                    intro w_460 hw_461 B_
                    replace R_459 := R_459.wrote hw_461 (by simp)
                    replace B_2 := B_2.wrote hw_461 (by simp) (W.bne (p := 3) (q := 2) (by decide) rfl rfl)
                    replace B_411 := B_411.wrote hw_461 (by simp) (W.bne (p := 1) (q := 2) (by decide) rfl rfl)
                    replace O_421 := O_421.wrote hw_461 (by simp) (W.one (p := 0) (q := 2) (by decide) rfl rfl)
                    replace W := W.wrote hw_461 (by simp)
                    replace B_6 : Bx (.st (.pair (.int .u16) .raw)) 25 w_460 (Kx K w.heap.size [v_420.ownBlock, some b_410, some b_5, some b_1]) b_5 (0, (.slice .none 0 0)) := B_; clear B_
                    refine wl_pure (l' := [(3, .int .i64 4), (160, v_458), (159, .bool q_453), (10, .int .i64 t_443), (9, .int .i64 t_437), (8, .int .i64 c_417), (7, .pointer (some (⟨b_410, 0, .none⟩ : Addr))), (6, .int .i64 t_351), (5, .int .i64 t_23), (4, .func (.func 25) #[] #[.pointer (some (⟨b_1, 0, .none⟩ : Addr))]), (2, .pointer (some (⟨b_5, 0, .none⟩ : Addr))), (1, .pointer (some (⟨b_1, 0, .none⟩ : Addr)))]) S tys tys_ok 1 (by kernel_rfl) ?_
                    clear S; intro a S
                    refine wpList_nil ?_
                    refine then_n ?_
                    replace S := S.sub (l' := [(3, .int .i64 4), (2, .pointer (some (⟨b_5, 0, .none⟩ : Addr)))]) (by exact ⟨rfl, rfl, trivial⟩)
                    refine wp_ret ?_
                    refine then_r ?_
                    refine blk_r ?_
                    refine then_r ?_
                    refine then_r ?_
                    refine blk_r ?_
                    refine then_r ?_
                    refine then_r ?_
                    replace B_6 : Bx (.st (.pair (.int .u16) (.sl (.sl (.int .u8))))) 25 w_460 (Kx K w.heap.size [v_420.ownBlock, some b_410, some b_5, some b_1]) b_5 (0, (⟨[], some 0⟩ : Sl (Sl (Int)))) := Bx.unraw (f := (.pair (.int .u16) (.sl (.sl (.int .u8))))) 1 (0, (⟨[], some 0⟩ : Sl (Sl (Int)))) rfl B_6 RepV.nil
                    obtain ⟨v_462, hr_463, R_464⟩ := res_cell (P := Try.prog) (T := 25) (t := (.st (.pair (.int .u16) (.sl (.sl (.int .u8)))))) (x := (0, (⟨[], some 0⟩ : Sl (Sl (Int))))) S (s := 2) rfl ty25 B_6.at_
                    obtain rfl := Option.some.inj hl_432
                    obtain rfl := lr_inr h
                    exact b_res2 S rfl hr_463 (res_tmp S rfl) ⟨_, _, rfl, R_464.out, (RepV.mkInt (by decide)), W.below⟩
                  · intro hc
                    rw [if_neg (Bool.eq_false_iff.1 hc)] at hl_432
                    refine wp_skip ?_
                    refine then_n ?_
                    replace S := S.sub (l' := [(10, .int .i64 t_443), (9, .int .i64 t_437), (8, .int .i64 c_417), (7, .pointer (some (⟨b_410, 0, .none⟩ : Addr))), (6, .int .i64 t_351), (5, .int .i64 t_23), (4, .func (.func 25) #[] #[.pointer (some (⟨b_1, 0, .none⟩ : Addr))]), (2, .pointer (some (⟨b_5, 0, .none⟩ : Addr))), (1, .pointer (some (⟨b_1, 0, .none⟩ : Addr)))]) (by exact ⟨rfl, rfl, rfl, rfl, rfl, rfl, rfl, rfl, rfl, trivial⟩)
                    obtain ⟨x_469, ex_469, hl_432⟩ := bindS hl_432
                    obtain ⟨s_472, es_472, hl_432⟩ := bindS hl_432
                    obtain ⟨t_473, et_473, hl_432⟩ := bindS hl_432
                    obtain ⟨t_478, et_478, hl_432⟩ := bindS hl_432
                    have hR : Rel (Kx K w.heap.size [v_420.ownBlock, some b_410, some b_5, some b_1]) Bl := Bl.rel _
                    refine wp_region_suf 11 [1, 11, 7, 7, 6, 6, 7, 8, 9, 11, 11, 12, 13] hR [eqv (.pointer (some ((⟨b_410, 0, .none⟩ : Addr).add (coff (.pair (.int .u16) (.sl (.sl (.int .u8)))) 1)))), eqv (v_420), isRep (.sl (.int .u8)) (Kx K w.heap.size [v_420.ownBlock, some b_410, some b_5, some b_1]) x0, isI .i64 t_437, isI .i64 t_437, isI .i64 t_443, isI .i64 x_469, isRep (.sl (.int .u8)) (Kx K w.heap.size [v_420.ownBlock, some b_410, some b_5, some b_1]) s_472, isRep (.sl (.int .u8)) (Kx K w.heap.size [v_420.ownBlock, some b_410, some b_5, some b_1]) t_473, isRep (.sl (.int .u8)) (Kx K w.heap.size [v_420.ownBlock, some b_410, some b_5, some b_1]) t_478, isRep (.sl (.sl (.int .u8))) (Kx K w.heap.size [v_420.ownBlock, some b_410, some b_5, some b_1]) (⟨[t_478], some 1⟩ : Sl (Sl (Int)))] [[], [(0, 161)], [], [], [], [], [(4, 165), (5, 166)], [(2, 163), (3, 164), (6, 167)], [(7, 168)], [(8, 169)], [(9, 170)]] (by kernel_rfl) (by rw [S.size]; kernel_rfl) (by kernel_rfl) (by kernel_rfl) (by kernel_rfl) rfl ⟨(stab_eqv _), (stab_eqv _), (stab_rep hR), stab_I, stab_I, stab_I, stab_I, (stab_rep hR), (stab_rep hR), (stab_rep hR), (stab_rep hR), trivial⟩ ?_ ?_
                    ·
                      refine RunAll.cons (eqv (.pointer (some ((⟨b_410, 0, .none⟩ : Addr).add (coff (.pair (.int .u16) (.sl (.sl (.int .u8)))) 1))))) [] rfl rfl ?_ ?_
                      · intro W_ hW
                        have S1 := S
                        refine fill_nil S1 ?_; clear S1; intro a_ S1
                        replace B_411 := B_411.step hW
                        have S0 := S.defers; replace S := S1; clear S1
                        refine wl_pure (l' := [(161, .pointer (some ((⟨b_410, 0, .none⟩ : Addr).add (coff (.pair (.int .u16) (.sl (.sl (.int .u8)))) 1)))), (10, .int .i64 t_443), (9, .int .i64 t_437), (8, .int .i64 c_417), (7, .pointer (some (⟨b_410, 0, .none⟩ : Addr))), (6, .int .i64 t_351), (5, .int .i64 t_23), (4, .func (.func 25) #[] #[.pointer (some (⟨b_1, 0, .none⟩ : Addr))]), (2, .pointer (some (⟨b_5, 0, .none⟩ : Addr))), (1, .pointer (some (⟨b_1, 0, .none⟩ : Addr)))]) S tys tys_ok 1 (by kernel_rfl) ?_; clear S; intro a S
                        refine wpList_nil ?_
                        exact RPost.mk_ S rfl S0 rfl (Below.refl _ _)
                      refine RunAll.cons (eqv (v_420)) [(eqv (.pointer (some ((⟨b_410, 0, .none⟩ : Addr).add (coff (.pair (.int .u16) (.sl (.sl (.int .u8)))) 1)))), 161)] rfl rfl ?_ ?_
                      · intro W_ hW
                        have S1 := S
                        intro v_488 hF_487; obtain rfl : .pointer (some ((⟨b_410, 0, .none⟩ : Addr).add (coff (.pair (.int .u16) (.sl (.sl (.int .u8)))) 1))) = v_488 := Eq.symm hF_487
                        replace S1 := S1.put (by decide : 161 < 184) (.pointer (some ((⟨b_410, 0, .none⟩ : Addr).add (coff (.pair (.int .u16) (.sl (.sl (.int .u8)))) 1))))
                        refine fill_nil S1 ?_; clear S1; intro a_ S1
                        replace B_411 := B_411.step hW
                        have S0 := S.defers; replace S := S1; clear S1
                        refine w_go S rfl (op_load (t := .raw) (x := v_420) S rfl tyr23 rfl rfl rfl (RepAt.add 1 (RepAt.st B_411.at_)) ?_)
                        clear S; intro a v_489 R_490 S
                        have q_ := (RepV.rawEq R_490).symm; clear R_490; subst q_
                        refine wpList_nil ?_
                        exact RPost.mk_ S rfl S0 rfl (Below.refl _ _)
                      refine RunAll.cons (isRep (.sl (.int .u8)) (Kx K w.heap.size [v_420.ownBlock, some b_410, some b_5, some b_1]) x0) [] rfl rfl ?_ ?_
                      · intro W_ hW
                        have S1 := S
                        refine fill_nil S1 ?_; clear S1; intro a_ S1
                        replace B_2 := B_2.step hW
                        have S0 := S.defers; replace S := S1; clear S1
                        refine w_go S rfl (op_load (t := (.sl (.int .u8))) (x := x0) S rfl ty28 rfl rfl rfl B_2.at_ ?_)
                        clear S; intro a v_491 R_492 S
                        refine wpList_nil ?_
                        exact RPost.mk_ S rfl S0 R_492 (Below.refl _ _)
                      refine RunAll.cons (isI .i64 t_437) [] rfl rfl ?_ ?_
                      · intro W_ hW
                        have S1 := S
                        refine fill_nil S1 ?_; clear S1; intro a_ S1
                        have S0 := S.defers; replace S := S1; clear S1
                        refine wl_pure (l' := [(164, .int .i64 t_437), (10, .int .i64 t_443), (9, .int .i64 t_437), (8, .int .i64 c_417), (7, .pointer (some (⟨b_410, 0, .none⟩ : Addr))), (6, .int .i64 t_351), (5, .int .i64 t_23), (4, .func (.func 25) #[] #[.pointer (some (⟨b_1, 0, .none⟩ : Addr))]), (2, .pointer (some (⟨b_5, 0, .none⟩ : Addr))), (1, .pointer (some (⟨b_1, 0, .none⟩ : Addr)))]) S tys tys_ok 1 (by kernel_rfl) ?_; clear S; intro a S
                        refine wpList_nil ?_
                        exact RPost.mk_ S rfl S0 ⟨rfl, GR_439⟩ (Below.refl _ _)
                      refine RunAll.cons (isI .i64 t_437) [] rfl rfl ?_ ?_
                      · intro W_ hW
                        have S1 := S
                        refine fill_nil S1 ?_; clear S1; intro a_ S1
                        have S0 := S.defers; replace S := S1; clear S1
                        refine wl_pure (l' := [(165, .int .i64 t_437), (10, .int .i64 t_443), (9, .int .i64 t_437), (8, .int .i64 c_417), (7, .pointer (some (⟨b_410, 0, .none⟩ : Addr))), (6, .int .i64 t_351), (5, .int .i64 t_23), (4, .func (.func 25) #[] #[.pointer (some (⟨b_1, 0, .none⟩ : Addr))]), (2, .pointer (some (⟨b_5, 0, .none⟩ : Addr))), (1, .pointer (some (⟨b_1, 0, .none⟩ : Addr)))]) S tys tys_ok 1 (by kernel_rfl) ?_; clear S; intro a S
                        refine wpList_nil ?_
                        exact RPost.mk_ S rfl S0 ⟨rfl, GR_439⟩ (Below.refl _ _)
                      refine RunAll.cons (isI .i64 t_443) [] rfl rfl ?_ ?_
                      · intro W_ hW
                        have S1 := S
                        refine fill_nil S1 ?_; clear S1; intro a_ S1
                        have S0 := S.defers; replace S := S1; clear S1
                        refine wl_pure (l' := [(166, .int .i64 t_443), (10, .int .i64 t_443), (9, .int .i64 t_437), (8, .int .i64 c_417), (7, .pointer (some (⟨b_410, 0, .none⟩ : Addr))), (6, .int .i64 t_351), (5, .int .i64 t_23), (4, .func (.func 25) #[] #[.pointer (some (⟨b_1, 0, .none⟩ : Addr))]), (2, .pointer (some (⟨b_5, 0, .none⟩ : Addr))), (1, .pointer (some (⟨b_1, 0, .none⟩ : Addr)))]) S tys tys_ok 1 (by kernel_rfl) ?_; clear S; intro a S
                        refine wpList_nil ?_
                        exact RPost.mk_ S rfl S0 ⟨rfl, GR_445⟩ (Below.refl _ _)
                      refine RunAll.cons (isI .i64 x_469) [(isI .i64 t_437, 165), (isI .i64 t_443, 166)] rfl rfl ?_ ?_
                      · intro W_ hW
                        have S1 := S
                        rintro _ ⟨rfl, hF_493⟩
                        replace S1 := S1.put (by decide : 165 < 184) (.int .i64 t_437)
                        rintro _ ⟨rfl, hF_495⟩
                        replace S1 := S1.put (by decide : 166 < 184) (.int .i64 t_443)
                        refine fill_nil S1 ?_; clear S1; intro a_ S1
                        have S0 := S.defers; replace S := S1; clear S1
                        refine w_go S rfl (op_arith S .i64 (t_437 + t_443) rfl (.inl rfl) rfl rfl rfl rfl ex_469 ?_)
                        clear S; intro a S
                        refine wpList_nil ?_
                        exact RPost.mk_ S rfl S0 ⟨rfl, (ckI_some ex_469).2.1⟩ (Below.refl _ _)
                      refine RunAll.cons (isRep (.sl (.int .u8)) (Kx K w.heap.size [v_420.ownBlock, some b_410, some b_5, some b_1]) s_472) [(isRep (.sl (.int .u8)) (Kx K w.heap.size [v_420.ownBlock, some b_410, some b_5, some b_1]) x0, 163), (isI .i64 t_437, 164), (isI .i64 x_469, 167)] rfl rfl ?_ ?_
                      · intro W_ hW
                        have S1 := S
                        intro v_498 hF_497; replace hF_497 : RepV _ _ _ _ _ := hF_497
                        replace S1 := S1.put (by decide : 163 < 184) (v_498)
                        rintro _ ⟨rfl, hF_499⟩
                        replace S1 := S1.put (by decide : 164 < 184) (.int .i64 t_437)
                        rintro _ ⟨rfl, hF_501⟩
                        replace S1 := S1.put (by decide : 167 < 184) (.int .i64 x_469)
                        refine fill_nil S1 ?_; clear S1; intro a_ S1
                        have S0 := S.defers; replace S := S1; clear S1
                        refine w_go S rfl (op_slice S rfl ty28 rfl rfl rfl hF_497 (.inr ⟨_, _, rfl, rfl⟩) (.inr ⟨_, _, rfl, rfl⟩) es_472 ?_)
                        clear S; intro a v_503 R_504 S
                        refine wpList_nil ?_
                        exact RPost.mk_ S rfl S0 R_504 (Below.refl _ _)
                      refine RunAll.cons (isRep (.sl (.int .u8)) (Kx K w.heap.size [v_420.ownBlock, some b_410, some b_5, some b_1]) t_473) [(isRep (.sl (.int .u8)) (Kx K w.heap.size [v_420.ownBlock, some b_410, some b_5, some b_1]) s_472, 168)] rfl rfl ?_ ?_
                      · intro W_ hW
                        have S1 := S
                        intro v_506 hF_505; replace hF_505 : RepV _ _ _ _ _ := hF_505
                        replace S1 := S1.put (by decide : 168 < 184) (v_506)
                        refine fill_nil S1 ?_; clear S1; intro a_ S1
                        replace W := W.step hW
                        have S0 := S.defers; replace S := S1; clear S1
                        refine w_go S rfl (op_call (vs := [v_506]) S rfl cb26 rfl rfl rfl (c26 (Kx K w.heap.size [v_420.ownBlock, some b_410, some b_5, some b_1]) n W_ s_472 _ hF_505 et_473) ?_)
                        rintro _ w_510 ⟨v_507, rfl, R_508, hb_509⟩; refine ⟨_, rfl, ?_⟩
                        replace R_508 := Ow.pub0 R_508
                        replace R_508 := RepV.back R_508 W
                        clear S; intro a S
                        refine wpList_nil ?_
                        exact RPost.mk_ S rfl S0 R_508 (hb_509)
                      refine RunAll.cons (isRep (.sl (.int .u8)) (Kx K w.heap.size [v_420.ownBlock, some b_410, some b_5, some b_1]) t_478) [(isRep (.sl (.int .u8)) (Kx K w.heap.size [v_420.ownBlock, some b_410, some b_5, some b_1]) t_473, 169)] rfl rfl ?_ ?_
                      · intro W_ hW
                        have S1 := S
                        intro v_512 hF_511; replace hF_511 : RepV _ _ _ _ _ := hF_511
                        replace S1 := S1.put (by decide : 169 < 184) (v_512)
                        refine fill_nil S1 ?_; clear S1; intro a_ S1
                        replace W := W.step hW
                        have S0 := S.defers; replace S := S1; clear S1
                        refine w_go S rfl (op_call (vs := [v_512]) S rfl cb24 rfl rfl rfl (c24 (Kx K w.heap.size [v_420.ownBlock, some b_410, some b_5, some b_1]) n W_ t_473 _ hF_511 et_478) ?_)
                        rintro _ w_516 ⟨v_513, rfl, R_514, hb_515⟩; refine ⟨_, rfl, ?_⟩
                        replace R_514 := RepV.back R_514 W
                        clear S; intro a S
                        refine wpList_nil ?_
                        exact RPost.mk_ S rfl S0 R_514 (hb_515)
                      refine RunAll.cons (isRep (.sl (.sl (.int .u8))) (Kx K w.heap.size [v_420.ownBlock, some b_410, some b_5, some b_1]) (⟨[t_478], some 1⟩ : Sl (Sl (Int)))) [(isRep (.sl (.int .u8)) (Kx K w.heap.size [v_420.ownBlock, some b_410, some b_5, some b_1]) t_478, 170)] rfl rfl ?_ ?_
                      · intro W_ hW
                        have S1 := S
                        intro v_518 hF_517; replace hF_517 : RepV _ _ _ _ _ := hF_517
                        replace S1 := S1.put (by decide : 170 < 184) (v_518)
                        refine fill_nil S1 ?_; clear S1; intro a_ S1
                        replace W := W.step hW
                        have S0 := S.defers; replace S := S1; clear S1
                        refine w_go S rfl (op_buildSlice (K := K) (e := (.sl (.int .u8))) (vs := [v_518]) (xs := [t_478]) S W rfl ty23 rfl rfl (by kernel_rfl) rfl rfl rfl rfl rfl ⟨hF_517, trivial⟩ ?_)
                        clear S; intro a w_522 v_519 hb_521 R_520 S
                        refine wpList_nil ?_
                        exact RPost.mk_ S rfl S0 R_520 (hb_521)
                      exact trivial
                    intro w_523 hb_524
                    refine EndE.some_ rfl ?_
                    intro v_526 hF_525; obtain rfl : .pointer (some ((⟨b_410, 0, .none⟩ : Addr).add (coff (.pair (.int .u16) (.sl (.sl (.int .u8)))) 1))) = v_526 := Eq.symm hF_525
                    replace S := S.put (by decide : 161 < 184) (.pointer (some ((⟨b_410, 0, .none⟩ : Addr).add (coff (.pair (.int .u16) (.sl (.sl (.int .u8)))) 1))))
                    refine EndE.some_ rfl ?_
                    intro v_528 hF_527; obtain rfl : v_420 = v_528 := Eq.symm hF_527
                    replace S := S.put (by decide : 162 < 184) (v_420)
                    refine EndE.some_ rfl ?_
                    intro v_530 hF_529; replace hF_529 : RepV _ _ _ _ _ := hF_529
                    replace S := S.put (by decide : 163 < 184) (v_530)
                    refine EndE.some_ rfl ?_
                    rintro _ ⟨rfl, hF_531⟩
                    replace S := S.put (by decide : 164 < 184) (.int .i64 t_437)
                    refine EndE.some_ rfl ?_
                    rintro _ ⟨rfl, hF_533⟩
                    replace S := S.put (by decide : 165 < 184) (.int .i64 t_437)
                    refine EndE.some_ rfl ?_
                    rintro _ ⟨rfl, hF_535⟩
                    replace S := S.put (by decide : 166 < 184) (.int .i64 t_443)
                    refine EndE.some_ rfl ?_
                    rintro _ ⟨rfl, hF_537⟩
                    replace S := S.put (by decide : 167 < 184) (.int .i64 x_469)
                    refine EndE.some_ rfl ?_
                    intro v_540 hF_539; replace hF_539 : RepV _ _ _ _ _ := hF_539
                    replace S := S.put (by decide : 168 < 184) (v_540)
                    refine EndE.some_ rfl ?_
                    intro v_542 hF_541; replace hF_541 : RepV _ _ _ _ _ := hF_541
                    replace S := S.put (by decide : 169 < 184) (v_542)
                    refine EndE.some_ rfl ?_
                    intro v_544 hF_543; replace hF_543 : RepV _ _ _ _ _ := hF_543
                    replace S := S.put (by decide : 170 < 184) (v_544)
                    refine EndE.some_ rfl ?_
                    intro v_546 hF_545; replace hF_545 : RepV _ _ _ _ _ := hF_545
                    replace S := S.put (by decide : 171 < 184) (v_546)
                    refine endE_nil S ?_; clear S; intro a S
                    replace B_2 := B_2.step hb_524
                    replace B_6 := B_6.step hb_524
                    replace B_411 := B_411.step hb_524
                    replace O_421 := O_421.step hb_524
                    replace W := W.step hb_524
                    obtain ⟨l_547, el_547, hl_432⟩ := bindS hl_432
                    refine w_go S rfl (op_append S W (E := 28) 0 rfl ty23 un23 by23 rfl rfl rfl rfl O_421 rfl hF_545 el_547 ?_)
                    clear S; intro a w_549 v_548 A_550 O_551 S
                    replace hF_529 : RepV (.sl (.int .u8)) w_549 (Kx K w.heap.size [v_548.ownBlock, some b_410, some b_5, some b_1]) v_530 x0 := hF_529.apd A_550 (i := 0) rfl
                    replace hF_539 : RepV (.sl (.int .u8)) w_549 (Kx K w.heap.size [v_548.ownBlock, some b_410, some b_5, some b_1]) v_540 s_472 := hF_539.apd A_550 (i := 0) rfl
                    replace hF_541 : RepV (.sl (.int .u8)) w_549 (Kx K w.heap.size [v_548.ownBlock, some b_410, some b_5, some b_1]) v_542 t_473 := hF_541.apd A_550 (i := 0) rfl
                    replace hF_543 : RepV (.sl (.int .u8)) w_549 (Kx K w.heap.size [v_548.ownBlock, some b_410, some b_5, some b_1]) v_544 t_478 := hF_543.apd A_550 (i := 0) rfl
                    replace hF_545 : RepV (.sl (.sl (.int .u8))) w_549 (Kx K w.heap.size [v_548.ownBlock, some b_410, some b_5, some b_1]) v_546 (⟨[t_478], some 1⟩ : Sl (Sl (Int))) := hF_545.apd A_550 (i := 0) rfl
                    replace B_2 : Bx (.sl (.int .u8)) 28 w_549 (Kx K w.heap.size [v_548.ownBlock, some b_410, some b_5, some b_1]) b_1 x0 := B_2.apd W A_550 (i := 0) rfl (j := 3) rfl (by decide)
                    replace B_6 : Bx (.st (.pair (.int .u16) .raw)) 25 w_549 (Kx K w.heap.size [v_548.ownBlock, some b_410, some b_5, some b_1]) b_5 (0, .slice .none 0 0) := B_6.apd W A_550 (i := 0) rfl (j := 2) rfl (by decide)
                    replace B_411 : Bx (.st (.pair (.int .u16) .raw)) 25 w_549 (Kx K w.heap.size [v_548.ownBlock, some b_410, some b_5, some b_1]) b_410 (IntKind.wrap .u16 t_403, v_420) := B_411.apd W A_550 (i := 0) rfl (j := 1) rfl (by decide)
                    replace W : Wd w w_549 [v_548.ownBlock, some b_410, some b_5, some b_1] := W.apd A_550 (i := 0) rfl
                    replace O_551 : Ow (.sl (.int .u8)) 28 w_549 w.heap.size (Kx K w.heap.size [v_548.ownBlock, some b_410, some b_5, some b_1]) v_548 l_547 (capA .none l_547.length) := O_551
                    refine wl_pure (l' := [(173, .pointer (some ((⟨b_410, 0, .none⟩ : Addr).add (coff (.pair (.int .u16) (.sl (.sl (.int .u8)))) 1)))), (172, v_548), (171, v_546), (170, v_544), (169, v_542), (168, v_540), (167, .int .i64 x_469), (166, .int .i64 t_443), (165, .int .i64 t_437), (164, .int .i64 t_437), (163, v_530), (162, v_420), (161, .pointer (some ((⟨b_410, 0, .none⟩ : Addr).add (coff (.pair (.int .u16) (.sl (.sl (.int .u8)))) 1)))), (10, .int .i64 t_443), (9, .int .i64 t_437), (8, .int .i64 c_417), (7, .pointer (some (⟨b_410, 0, .none⟩ : Addr))), (6, .int .i64 t_351), (5, .int .i64 t_23), (4, .func (.func 25) #[] #[.pointer (some (⟨b_1, 0, .none⟩ : Addr))]), (2, .pointer (some (⟨b_5, 0, .none⟩ : Addr))), (1, .pointer (some (⟨b_1, 0, .none⟩ : Addr)))]) S tys tys_ok 1 (by kernel_rfl) ?_
                    clear S; intro a S
                    refine w_go S rfl (op_store (t' := .raw) S rfl rfl tyr23 rfl (addr_add _ _ _) rfl B_411 (by simp) (Ln.st (Ln.comp 1)) O_551.raw ?_)
                    intro w_552 hw_553 B_
                    replace hF_529 := hF_529.wrote hw_553 (by simp)
                    replace hF_539 := hF_539.wrote hw_553 (by simp)
                    replace hF_541 := hF_541.wrote hw_553 (by simp)
                    replace hF_543 := hF_543.wrote hw_553 (by simp)
                    replace hF_545 := hF_545.wrote hw_553 (by simp)
                    replace B_2 := B_2.wrote hw_553 (by simp) (W.bne (p := 3) (q := 1) (by decide) rfl rfl)
                    replace B_6 := B_6.wrote hw_553 (by simp) (W.bne (p := 2) (q := 1) (by decide) rfl rfl)
                    replace O_551 := O_551.wrote hw_553 (by simp) (W.one (p := 0) (q := 1) (by decide) rfl rfl)
                    replace W := W.wrote hw_553 (by simp)
                    replace B_411 : Bx (.st (.pair (.int .u16) .raw)) 25 w_552 (Kx K w.heap.size [v_548.ownBlock, some b_410, some b_5, some b_1]) b_410 (IntKind.wrap .u16 t_403, v_548) := B_; clear B_
                    refine wpList_nil ?_
                    refine blk_n ?_
                    refine then_n ?_
                    replace S := S.sub (l' := [(8, .int .i64 c_417), (7, .pointer (some (⟨b_410, 0, .none⟩ : Addr))), (6, .int .i64 t_351), (5, .int .i64 t_23), (4, .func (.func 25) #[] #[.pointer (some (⟨b_1, 0, .none⟩ : Addr))]), (2, .pointer (some (⟨b_5, 0, .none⟩ : Addr))), (1, .pointer (some (⟨b_1, 0, .none⟩ : Addr)))]) (by exact ⟨rfl, rfl, rfl, rfl, rfl, rfl, rfl, trivial⟩)
                    refine wp_region_lit ?_
                    refine wl_pure (l' := [(122, .int .i64 c_417), (8, .int .i64 c_417), (7, .pointer (some (⟨b_410, 0, .none⟩ : Addr))), (6, .int .i64 t_351), (5, .int .i64 t_23), (4, .func (.func 25) #[] #[.pointer (some (⟨b_1, 0, .none⟩ : Addr))]), (2, .pointer (some (⟨b_5, 0, .none⟩ : Addr))), (1, .pointer (some (⟨b_1, 0, .none⟩ : Addr)))]) S tys tys_ok 1 (by kernel_rfl) ?_
                    clear S; intro a S
                    obtain ⟨x_554, ex_554, hl_432⟩ := bindS hl_432
                    refine w_go S rfl (op_arith S .i64 (c_417 + 4) rfl (.inl rfl) rfl rfl rfl rfl ex_554 ?_)
                    clear S; intro a S
                    refine wl_pure (l' := [(8, .int .i64 x_554), (123, .int .i64 x_554), (122, .int .i64 c_417), (8, .int .i64 c_417), (7, .pointer (some (⟨b_410, 0, .none⟩ : Addr))), (6, .int .i64 t_351), (5, .int .i64 t_23), (4, .func (.func 25) #[] #[.pointer (some (⟨b_1, 0, .none⟩ : Addr))]), (2, .pointer (some (⟨b_5, 0, .none⟩ : Addr))), (1, .pointer (some (⟨b_1, 0, .none⟩ : Addr)))]) S tys tys_ok 1 (by kernel_rfl) ?_
                    clear S; intro a S
                    refine wpList_nil ?_
                    refine then_n ?_
                    exact ⟨x_554, l_547, ⟨v_548, S.sub (by exact ⟨rfl, rfl, rfl, rfl, rfl, rfl, rfl, trivial⟩), W, (ckI_some ex_554).2.1, B_2, B_6, B_411, O_551.forget, hl_432⟩⟩
              · intro hc
                rw [if_neg (Bool.eq_false_iff.1 hc)] at hl_432
                refine wp_exit ?_
                refine then_x ?_
                refine then_x ?_
                refine blk_hit ?_
                refine then_n ?_
                obtain rfl := Option.some.inj hl_432
                exact ⟨_, rfl, ⟨v_420, S.sub (by exact ⟨rfl, rfl, trivial⟩), W, B_2, B_6, B_411, O_421⟩⟩
        clear S W; rintro a w_555 ⟨s_428, rfl, v_429, S, W, B_2, B_6, B_411, O_430⟩
        replace h := lr_inl h; try dsimp only at h
        refine then_n ?_
        refine wp_seq ?_
        refine wp_seq ?_
        refine wp_region_lit ?_
        refine wl_pure (l' := [(174, .pointer (some ((⟨b_410, 0, .none⟩ : Addr).add (coff (.pair (.int .u16) (.sl (.sl (.int .u8)))) 1)))), (2, .pointer (some (⟨b_5, 0, .none⟩ : Addr))), (7, .pointer (some (⟨b_410, 0, .none⟩ : Addr)))]) S tys tys_ok 1 (by kernel_rfl) ?_
        clear S; intro a S
        refine w_go S rfl (op_load (t := .raw) (x := v_429) S rfl tyr23 rfl rfl rfl (RepAt.add 1 (RepAt.st B_411.at_)) ?_)
        clear S; intro a v_556 R_557 S
        have q_ := (RepV.rawEq R_557).symm; clear R_557; subst q_
        refine w_go S rfl (op_len (K := _) S rfl ty23 rfl rfl rfl O_430.read ?_)
        clear S; intro a G_558 S
        refine wl_pure (l' := [(177, .bool (decide ((lenI (⟨s_428, .none⟩ : Sl (Sl (Int)))) > 64))), (176, .int .i64 (lenI (⟨s_428, .none⟩ : Sl (Sl (Int))))), (175, v_429), (174, .pointer (some ((⟨b_410, 0, .none⟩ : Addr).add (coff (.pair (.int .u16) (.sl (.sl (.int .u8)))) 1)))), (2, .pointer (some (⟨b_5, 0, .none⟩ : Addr))), (7, .pointer (some (⟨b_410, 0, .none⟩ : Addr)))]) S tys tys_ok 1 (by kernel_rfl) ?_
        clear S; intro a S
        refine wpList_nil ?_
        refine then_n ?_
        replace S := S.sub (l' := [(177, .bool (decide ((lenI (⟨s_428, .none⟩ : Sl (Sl (Int)))) > 64))), (2, .pointer (some (⟨b_5, 0, .none⟩ : Addr))), (7, .pointer (some (⟨b_410, 0, .none⟩ : Addr)))]) (by exact ⟨rfl, rfl, rfl, trivial⟩)
        refine wp_cond_split (S.eval (show ev _ _ = some (.bool (decide ((lenI (⟨s_428, .none⟩ : Sl (Sl (Int)))) > 64))) from rfl)) ?_ ?_
        · intro hc
          rw [if_pos hc] at h
          refine wp_seq ?_
          refine wp_region_lit ?_
          refine w_go S rfl (op_build (K := (Kx K w.heap.size [v_429.ownBlock, some b_410, some b_5, some b_1])) (f := (.pair (.int .u16) .raw)) (z0 := (0, (.slice .none 0 0))) (x := (0, (.slice .none 0 0))) (vs := []) S _ rfl tyw25_1 z25 (fun w K => ⟨[.int .u16 0], [.slice .none 0 0], rfl, ⟨rfl, by decide⟩, ⟨rfl, _, _, _, rfl⟩⟩) rfl rfl rfl [] rfl rfl ?_)
          clear S; intro a v_559 R_560 S
          refine w_go S rfl (op_store (t' := (.st (.pair (.int .u16) .raw))) S rfl rfl tyw25_1 rfl rfl rfl B_6 (by simp) Ln.whole R_560 ?_)
          intro w_561 hw_562 B_
          replace R_560 := R_560.wrote hw_562 (by simp)
          replace B_2 := B_2.wrote hw_562 (by simp) (W.bne (p := 3) (q := 2) (by decide) rfl rfl)
          replace B_411 := B_411.wrote hw_562 (by simp) (W.bne (p := 1) (q := 2) (by decide) rfl rfl)
          replace O_430 := O_430.wrote hw_562 (by simp) (W.one (p := 0) (q := 2) (by decide) rfl rfl)
          replace W := W.wrote hw_562 (by simp)
          replace B_6 : Bx (.st (.pair (.int .u16) .raw)) 25 w_561 (Kx K w.heap.size [v_429.ownBlock, some b_410, some b_5, some b_1]) b_5 (0, (.slice .none 0 0)) := B_; clear B_
          refine wl_pure (l' := [(3, .int .i64 3), (178, v_559), (177, .bool (decide ((lenI (⟨s_428, .none⟩ : Sl (Sl (Int)))) > 64))), (2, .pointer (some (⟨b_5, 0, .none⟩ : Addr))), (7, .pointer (some (⟨b_410, 0, .none⟩ : Addr)))]) S tys tys_ok 1 (by kernel_rfl) ?_
          clear S; intro a S
          refine wpList_nil ?_
          refine then_n ?_
          replace S := S.sub (l' := [(3, .int .i64 3), (2, .pointer (some (⟨b_5, 0, .none⟩ : Addr)))]) (by exact ⟨rfl, rfl, trivial⟩)
          refine wp_ret ?_
          refine then_r ?_
          replace B_6 : Bx (.st (.pair (.int .u16) (.sl (.sl (.int .u8))))) 25 w_561 (Kx K w.heap.size [v_429.ownBlock, some b_410, some b_5, some b_1]) b_5 (0, (⟨[], some 0⟩ : Sl (Sl (Int)))) := Bx.unraw (f := (.pair (.int .u16) (.sl (.sl (.int .u8))))) 1 (0, (⟨[], some 0⟩ : Sl (Sl (Int)))) rfl B_6 RepV.nil
          obtain ⟨v_563, hr_564, R_565⟩ := res_cell (P := Try.prog) (T := 25) (t := (.st (.pair (.int .u16) (.sl (.sl (.int .u8)))))) (x := (0, (⟨[], some 0⟩ : Sl (Sl (Int))))) S (s := 2) rfl ty25 B_6.at_
          obtain rfl := Option.some.inj h
          exact b_res2 S rfl hr_564 (res_tmp S rfl) ⟨_, _, rfl, R_565.out, (RepV.mkInt (by decide)), W.below⟩
        · intro hc
          rw [if_neg (Bool.eq_false_iff.1 hc)] at h
          refine wp_skip ?_
          refine then_n ?_
          replace S := S.sub (l' := [(2, .pointer (some (⟨b_5, 0, .none⟩ : Addr))), (7, .pointer (some (⟨b_410, 0, .none⟩ : Addr)))]) (by exact ⟨rfl, rfl, trivial⟩)
          refine wp_seq ?_
          refine wp_region_lit ?_
          refine wl_pure (l' := [(179, .pointer (some ((⟨b_410, 0, .none⟩ : Addr).add (coff (.pair (.int .u16) (.sl (.sl (.int .u8)))) 1)))), (2, .pointer (some (⟨b_5, 0, .none⟩ : Addr))), (7, .pointer (some (⟨b_410, 0, .none⟩ : Addr)))]) S tys tys_ok 1 (by kernel_rfl) ?_
          clear S; intro a S
          refine w_go S rfl (op_load (t := .raw) (x := v_429) S rfl tyr23 rfl rfl rfl (RepAt.add 1 (RepAt.st B_411.at_)) ?_)
          clear S; intro a v_566 R_567 S
          have q_ := (RepV.rawEq R_567).symm; clear R_567; subst q_
          have R_568 : RepV (.sl (.sl (.int .u8))) w_555 (Kx K w.heap.size [some b_410, some b_5, some b_1]) v_429 (⟨s_428, .none⟩ : Sl (Sl (Int))) := O_430.pubAt W 0 rfl
          replace B_2 : Bx (.sl (.int .u8)) 28 w_555 (Kx K w.heap.size [some b_410, some b_5, some b_1]) b_1 x0 := B_2.lessAt 0
          replace B_6 : Bx (.st (.pair (.int .u16) .raw)) 25 w_555 (Kx K w.heap.size [some b_410, some b_5, some b_1]) b_5 (0, .slice .none 0 0) := B_6.lessAt 0
          replace B_411 : Bx (.st (.pair (.int .u16) .raw)) 25 w_555 (Kx K w.heap.size [some b_410, some b_5, some b_1]) b_410 (IntKind.wrap .u16 t_403, v_429) := B_411.lessAt 0
          replace W : Wd w w_555 [some b_410, some b_5, some b_1] := W.lessAt 0
          replace B_411 : Bx (.st (.pair (.int .u16) (.sl (.sl (.int .u8))))) 25 w_555 (Kx K w.heap.size [some b_410, some b_5, some b_1]) b_410 (IntKind.wrap .u16 t_403, (⟨s_428, .none⟩ : Sl (Sl (Int)))) := Bx.unraw (f := (.pair (.int .u16) (.sl (.sl (.int .u8))))) 1 (IntKind.wrap .u16 t_403, (⟨s_428, .none⟩ : Sl (Sl (Int)))) rfl B_411 R_568
          obtain ⟨t_569, et_569, h⟩ := bindS h
          refine w_go S rfl (op_call (vs := [v_429]) S rfl cb27 rfl rfl rfl (c27 (Kx K w.heap.size [some b_410, some b_5, some b_1]) n w_555 (⟨s_428, .none⟩ : Sl (Sl (Int))) _ R_568 et_569) ?_)
          rintro _ w_573 ⟨v_570, rfl, R_571, hb_572⟩; refine ⟨_, rfl, ?_⟩
          replace R_571 := RepV.back R_571 W
          clear S; intro a S
          replace R_568 := R_568.step hb_572
          replace B_2 := B_2.step hb_572
          replace B_6 := B_6.step hb_572
          replace B_411 := B_411.step hb_572
          replace W := W.step hb_572
          refine wl_pure (l' := [(182, .pointer (some ((⟨b_410, 0, .none⟩ : Addr).add (coff (.pair (.int .u16) (.sl (.sl (.int .u8)))) 1)))), (181, v_570), (180, v_429), (179, .pointer (some ((⟨b_410, 0, .none⟩ : Addr).add (coff (.pair (.int .u16) (.sl (.sl (.int .u8)))) 1)))), (2, .pointer (some (⟨b_5, 0, .none⟩ : Addr))), (7, .pointer (some (⟨b_410, 0, .none⟩ : Addr)))]) S tys tys_ok 1 (by kernel_rfl) ?_
          clear S; intro a S
          refine w_go S rfl (op_store (t' := (.sl (.sl (.int .u8)))) S rfl rfl ty23 rfl (addr_add _ _ _) rfl B_411 (by simp) (Ln.st (Ln.comp 1)) R_571 ?_)
          intro w_574 hw_575 B_
          replace R_568 := R_568.wrote hw_575 (by simp)
          replace R_571 := R_571.wrote hw_575 (by simp)
          replace B_2 := B_2.wrote hw_575 (by simp) (W.bne (p := 2) (q := 0) (by decide) rfl rfl)
          replace B_6 := B_6.wrote hw_575 (by simp) (W.bne (p := 1) (q := 0) (by decide) rfl rfl)
          replace W := W.wrote hw_575 (by simp)
          replace B_411 : Bx (.st (.pair (.int .u16) (.sl (.sl (.int .u8))))) 25 w_574 (Kx K w.heap.size [some b_410, some b_5, some b_1]) b_410 (IntKind.wrap .u16 t_403, t_569) := B_; clear B_
          refine wpList_nil ?_
          refine then_n ?_
          replace S := S.sub (l' := [(2, .pointer (some (⟨b_5, 0, .none⟩ : Addr))), (7, .pointer (some (⟨b_410, 0, .none⟩ : Addr)))]) (by exact ⟨rfl, rfl, trivial⟩)
          refine wp_seq ?_
          refine wp_region_lit ?_
          refine w_go S rfl (op_load (t := (.st (.pair (.int .u16) (.sl (.sl (.int .u8)))))) (x := (IntKind.wrap .u16 t_403, t_569)) S rfl ty25 rfl rfl rfl B_411.at_ ?_)
          clear S; intro a v_576 R_577 S
          replace B_6 : Bx (.st (.pair (.int .u16) (.sl (.sl (.int .u8))))) 25 w_574 (Kx K w.heap.size [some b_410, some b_5, some b_1]) b_5 (0, (⟨[], some 0⟩ : Sl (Sl (Int)))) := Bx.unraw (f := (.pair (.int .u16) (.sl (.sl (.int .u8))))) 1 (0, (⟨[], some 0⟩ : Sl (Sl (Int)))) rfl B_6 RepV.nil
          refine w_go S rfl (op_store (t' := (.st (.pair (.int .u16) (.sl (.sl (.int .u8)))))) S rfl rfl ty25 rfl rfl rfl B_6 (by simp) Ln.whole R_577 ?_)
          intro w_578 hw_579 B_
          replace R_577 := R_577.wrote hw_579 (by simp)
          replace B_2 := B_2.wrote hw_579 (by simp) (W.bne (p := 2) (q := 1) (by decide) rfl rfl)
          replace B_411 := B_411.wrote hw_579 (by simp) (W.bne (p := 0) (q := 1) (by decide) rfl rfl)
          replace W := W.wrote hw_579 (by simp)
          replace B_6 : Bx (.st (.pair (.int .u16) (.sl (.sl (.int .u8))))) 25 w_578 (Kx K w.heap.size [some b_410, some b_5, some b_1]) b_5 (IntKind.wrap .u16 t_403, t_569) := B_; clear B_
          refine wl_pure (l' := [(3, .int .i64 0), (183, v_576), (2, .pointer (some (⟨b_5, 0, .none⟩ : Addr))), (7, .pointer (some (⟨b_410, 0, .none⟩ : Addr)))]) S tys tys_ok 1 (by kernel_rfl) ?_
          clear S; intro a S
          refine wpList_nil ?_
          refine then_n ?_
          replace S := S.sub (l' := [(3, .int .i64 0), (2, .pointer (some (⟨b_5, 0, .none⟩ : Addr)))]) (by exact ⟨rfl, rfl, trivial⟩)
          refine wp_ret ?_
          obtain ⟨v_580, hr_581, R_582⟩ := res_cell (P := Try.prog) (T := 25) (t := (.st (.pair (.int .u16) (.sl (.sl (.int .u8)))))) (x := (IntKind.wrap .u16 t_403, t_569)) S (s := 2) rfl ty25 B_6.at_
          obtain rfl := Option.some.inj h
          exact b_res2 S rfl hr_581 (res_tmp S rfl) ⟨_, _, rfl, R_582.out, (RepV.mkInt (by decide)), W.below⟩
theorem cb12 : callB Try.prog 12 = true := by kernel_rfl
def p13_l1 (n : Nat) (x0 : Sl (Sl (Int))) (x1 : Sl (Sl (Int))) : Nat → (Int) → Option ((Unit) ⊕ ((Bool)))
  | 0, _ => .none
  | m + 1, c_3 => if (decide (c_3 < (lenI x0))) then ((idx x0.xs c_3).bind fun y_13 => (idx x1.xs c_3).bind fun y_19 => if (!(decide (y_13.xs = y_19.xs))) then (some (.inr false)) else (ckI .i64 (c_3 + 1)).bind fun x_91 => p13_l1 n x0 x1 m x_91) else some (.inl ())
def p13 (n : Nat) (x0 : Sl (Sl (Int))) (x1 : Sl (Sl (Int))) : Option ((Bool)) :=
  if ((lenI x0) != (lenI x1)) then (some false) else (p13_l1 n x0 x1 n 0).bind fun (y_7 : (Unit) ⊕ ((Bool))) => lrK y_7 some fun (s_8 : Unit) => some true
set_option maxHeartbeats 4000000 in
set_option maxRecDepth 100000 in
/-- plugboard/plugboardlaw43.same -/
theorem c13 (K : Nat → Prop) (n : Nat) (w : World) (x0 : Sl (Sl (Int))) (v0 : Value) (R0 : RepV (.sl (.sl (.int .u8))) w K v0 x0) (x1 : Sl (Sl (Int))) (v1 : Value) (R1 : RepV (.sl (.sl (.int .u8))) w K v1 x1) {r : (Bool)} (h : p13 n x0 x1 = some r) :
    Calls Try.prog 13 #[v0, v1] w (Ret1 .bool w (Kx K w.heap.size []) r) := by
  refine enter (args := [v0, v1]) Try.func13 rfl 28 rfl rfl fun a S => ?_
  have W := Wd.start w
  replace R0 := R0.arg
  replace R1 := R1.arg
  unfold p13 at h
  replace S : St 28 a [(0, v0), (1, v1)] := S
  refine wp_seq ?_
  refine wp_region_lit ?_
  refine wl_pure (l' := [(4, .bool false), (0, v0), (1, v1)]) S tys tys_ok 1 (by kernel_rfl) ?_
  clear S; intro a S
  refine wpList_nil ?_
  refine then_n ?_
  replace S := S.sub (l' := [(0, v0), (1, v1)]) (by exact ⟨rfl, rfl, trivial⟩)
  refine wp_seq ?_
  refine wp_seq ?_
  refine wp_region_lit ?_
  refine wl_pure (l' := [(6, v0), (0, v0), (1, v1)]) S tys tys_ok 1 (by kernel_rfl) ?_
  clear S; intro a S
  refine w_go S rfl (op_len (K := _) S rfl ty23 rfl rfl rfl R0 ?_)
  clear S; intro a G_1 S
  refine wl_pure (l' := [(8, v1), (7, .int .i64 (lenI x0)), (6, v0), (0, v0), (1, v1)]) S tys tys_ok 1 (by kernel_rfl) ?_
  clear S; intro a S
  refine w_go S rfl (op_len (K := _) S rfl ty23 rfl rfl rfl R1 ?_)
  clear S; intro a G_2 S
  refine wl_pure (l' := [(10, .bool ((lenI x0) != (lenI x1))), (9, .int .i64 (lenI x1)), (8, v1), (7, .int .i64 (lenI x0)), (6, v0), (0, v0), (1, v1)]) S tys tys_ok 1 (by kernel_rfl) ?_
  clear S; intro a S
  refine wpList_nil ?_
  refine then_n ?_
  replace S := S.sub (l' := [(10, .bool ((lenI x0) != (lenI x1))), (0, v0), (1, v1)]) (by exact ⟨rfl, rfl, rfl, trivial⟩)
  refine wp_cond_split (S.eval (show ev _ _ = some (.bool ((lenI x0) != (lenI x1))) from rfl)) ?_ ?_
  · intro hc
    rw [if_pos hc] at h
    refine wp_seq ?_
    refine wp_region_lit ?_
    refine wl_pure (l' := [(4, .bool false), (10, .bool ((lenI x0) != (lenI x1))), (0, v0), (1, v1)]) S tys tys_ok 1 (by kernel_rfl) ?_
    clear S; intro a S
    refine wpList_nil ?_
    refine then_n ?_
    replace S := S.sub (l' := [(4, .bool false)]) (by exact ⟨rfl, trivial⟩)
    refine wp_ret ?_
    refine then_r ?_
    obtain rfl := Option.some.inj h
    exact b_ret1 S rfl rfl ⟨_, rfl, RepV.mkBool, W.below⟩
  · intro hc
    rw [if_neg (Bool.eq_false_iff.1 hc)] at h
    refine wp_skip ?_
    refine then_n ?_
    replace S := S.sub (l' := [(0, v0), (1, v1)]) (by exact ⟨rfl, rfl, trivial⟩)
    refine wp_seq ?_
    refine wp_seq ?_
    refine wp_region_lit ?_
    refine wl_pure (l' := [(5, .int .i64 0), (0, v0), (1, v1)]) S tys tys_ok 1 (by kernel_rfl) ?_
    clear S; intro a S
    refine wpList_nil ?_
    refine then_n ?_
    obtain ⟨y_7, ey_7, h⟩ := bindS h
    refine wp_cut_ (fun a_ w_ => ∃ s_8 : Unit, y_7 = .inl s_8 ∧ (St 28 a_ [] ∧ Wd w w_ [])) ?_ ?_
    · refine wp_block ?_
      refine wp_loop_n (fun m_ a_ w_ => ∃ (c_3 : Int) , St 28 a_ [(5, .int .i64 c_3), (0, v0), (1, v1)] ∧ Wd w w_ [] ∧ InR .i64 c_3 ∧ RepV (.sl (.sl (.int .u8))) w_ (Kx K w.heap.size []) v0 x0 ∧ RepV (.sl (.sl (.int .u8))) w_ (Kx K w.heap.size []) v1 x1 ∧ p13_l1 n x0 x1 m_ c_3 = some y_7) n ?_ ?_
      · skip
        exact ⟨0, ⟨S.sub (by exact ⟨rfl, rfl, rfl, trivial⟩), W, (by decide), R0, R1, ey_7⟩⟩
      · clear S W; rintro m_9 a w_11 ⟨c_3, S, W, G_4, R0, R1, hl_10⟩
        cases m_9 with
        | zero => exact absurd hl_10 (by simp [p13_l1])
        | succ m_9 =>
          refine ⟨m_9, rfl, ?_⟩
          rw [p13_l1] at hl_10
          refine wp_seq ?_
          refine wp_seq ?_
          refine wp_region_lit ?_
          refine wl_pure (l' := [(12, v0), (11, .int .i64 c_3), (5, .int .i64 c_3), (0, v0), (1, v1)]) S tys tys_ok 2 (by kernel_rfl) ?_
          clear S; intro a S
          refine w_go S rfl (op_len (K := _) S rfl ty23 rfl rfl rfl R0 ?_)
          clear S; intro a G_12 S
          refine wl_pure (l' := [(14, .bool (decide (c_3 < (lenI x0)))), (13, .int .i64 (lenI x0)), (12, v0), (11, .int .i64 c_3), (5, .int .i64 c_3), (0, v0), (1, v1)]) S tys tys_ok 1 (by kernel_rfl) ?_
          clear S; intro a S
          refine wpList_nil ?_
          refine then_n ?_
          replace S := S.sub (l' := [(14, .bool (decide (c_3 < (lenI x0)))), (5, .int .i64 c_3), (0, v0), (1, v1)]) (by exact ⟨rfl, rfl, rfl, rfl, trivial⟩)
          refine wp_cond_split (S.eval (show ev _ _ = some (.bool (decide (c_3 < (lenI x0)))) from rfl)) ?_ ?_
          · intro hc
            rw [if_pos hc] at hl_10
            refine wp_skip ?_
            refine then_n ?_
            replace S := S.sub (l' := [(5, .int .i64 c_3), (0, v0), (1, v1)]) (by exact ⟨rfl, rfl, rfl, trivial⟩)
            refine wp_seq ?_
            refine wp_block ?_
            refine wp_seq ?_
            obtain ⟨y_13, ey_13, hl_10⟩ := bindS hl_10
            obtain ⟨y_19, ey_19, hl_10⟩ := bindS hl_10
            have hR : Rel (Kx K w.heap.size []) Bl := Bl.rel _
            refine wp_region_all hR [isRep (.sl (.sl (.int .u8))) (Kx K w.heap.size []) x0, isI .i64 c_3, isEl (.sl (.int .u8)) (Kx K w.heap.size []) y_13, isRep (.sl (.int .u8)) (Kx K w.heap.size []) y_13, isS y_13.xs, isRep (.sl (.sl (.int .u8))) (Kx K w.heap.size []) x1, isI .i64 c_3, isEl (.sl (.int .u8)) (Kx K w.heap.size []) y_19, isRep (.sl (.int .u8)) (Kx K w.heap.size []) y_19, isS y_19.xs, eqv (.bool (!(decide (y_13.xs = y_19.xs))))] [[], [], [(0, 17), (1, 18)], [(2, 19)], [(3, 20)], [], [], [(5, 22), (6, 23)], [(7, 24)], [(8, 25)], [(4, 21), (9, 26)]] (by kernel_rfl) (by rw [S.size]; kernel_rfl) (by kernel_rfl) (by kernel_rfl) rfl ⟨(stab_rep hR), stab_I, (stab_el hR), (stab_rep hR), stab_S, (stab_rep hR), stab_I, (stab_el hR), (stab_rep hR), stab_S, (stab_eqv _), trivial⟩ ?_ ?_
            ·
              refine RunAll.cons (isRep (.sl (.sl (.int .u8))) (Kx K w.heap.size []) x0) [] rfl rfl ?_ ?_
              · intro W_ hW
                have S1 := S
                refine fill_nil S1 ?_; clear S1; intro a_ S1
                replace R0 := R0.step hW
                have S0 := S.defers; replace S := S1; clear S1
                refine wl_pure (l' := [(17, v0), (5, .int .i64 c_3), (0, v0), (1, v1)]) S tys tys_ok 1 (by kernel_rfl) ?_; clear S; intro a S
                refine wpList_nil ?_
                exact RPost.mk_ S rfl S0 R0 (Below.refl _ _)
              refine RunAll.cons (isI .i64 c_3) [] rfl rfl ?_ ?_
              · intro W_ hW
                have S1 := S
                refine fill_nil S1 ?_; clear S1; intro a_ S1
                have S0 := S.defers; replace S := S1; clear S1
                refine wl_pure (l' := [(18, .int .i64 c_3), (5, .int .i64 c_3), (0, v0), (1, v1)]) S tys tys_ok 1 (by kernel_rfl) ?_; clear S; intro a S
                refine wpList_nil ?_
                exact RPost.mk_ S rfl S0 ⟨rfl, G_4⟩ (Below.refl _ _)
              refine RunAll.cons (isEl (.sl (.int .u8)) (Kx K w.heap.size []) y_13) [(isRep (.sl (.sl (.int .u8))) (Kx K w.heap.size []) x0, 17), (isI .i64 c_3, 18)] rfl rfl ?_ ?_
              · intro W_ hW
                have S1 := S
                intro v_26 hF_25; replace hF_25 : RepV _ _ _ _ _ := hF_25
                replace S1 := S1.put (by decide : 17 < 28) (v_26)
                rintro _ ⟨rfl, hF_27⟩
                replace S1 := S1.put (by decide : 18 < 28) (.int .i64 c_3)
                refine fill_nil S1 ?_; clear S1; intro a_ S1
                replace W := W.step hW
                have S0 := S.defers; replace S := S1; clear S1
                refine w_go S rfl (op_indexAddr S rfl ty23 rfl rfl rfl hF_25 rfl ey_13 ?_)
                clear S; intro a p_29 R_30 H_31 S
                refine wpList_nil ?_
                exact RPost.mk_ S rfl S0 ⟨_, rfl, R_30, H_31⟩ (Below.refl _ _)
              refine RunAll.cons (isRep (.sl (.int .u8)) (Kx K w.heap.size []) y_13) [(isEl (.sl (.int .u8)) (Kx K w.heap.size []) y_13, 19)] rfl rfl ?_ ?_
              · intro W_ hW
                have S1 := S
                rintro _ ⟨p_34, rfl, R_35, H_36⟩
                replace S1 := S1.put (by decide : 19 < 28) (.pointer (some p_34))
                refine fill_nil S1 ?_; clear S1; intro a_ S1
                have S0 := S.defers; replace S := S1; clear S1
                refine w_go S rfl (op_load (t := (.sl (.int .u8))) (x := y_13) S rfl ty28 rfl rfl rfl R_35 ?_)
                clear S; intro a v_37 R_38 S
                refine wpList_nil ?_
                exact RPost.mk_ S rfl S0 R_38 (Below.refl _ _)
              refine RunAll.cons (isS y_13.xs) [(isRep (.sl (.int .u8)) (Kx K w.heap.size []) y_13, 20)] rfl rfl ?_ ?_
              · intro W_ hW
                have S1 := S
                intro v_40 hF_39; replace hF_39 : RepV _ _ _ _ _ := hF_39
                replace S1 := S1.put (by decide : 20 < 28) (v_40)
                refine fill_nil S1 ?_; clear S1; intro a_ S1
                replace W := W.step hW
                have S0 := S.defers; replace S := S1; clear S1
                refine w_go S rfl (op_str (K := _) S rfl ty28 ty9 rfl rfl rfl hF_39 ?_)
                clear S; intro a S
                refine wpList_nil ?_
                exact RPost.mk_ S rfl S0 ⟨rfl, hF_39.byt⟩ (Below.refl _ _)
              refine RunAll.cons (isRep (.sl (.sl (.int .u8))) (Kx K w.heap.size []) x1) [] rfl rfl ?_ ?_
              · intro W_ hW
                have S1 := S
                refine fill_nil S1 ?_; clear S1; intro a_ S1
                replace R1 := R1.step hW
                have S0 := S.defers; replace S := S1; clear S1
                refine wl_pure (l' := [(22, v1), (5, .int .i64 c_3), (0, v0), (1, v1)]) S tys tys_ok 1 (by kernel_rfl) ?_; clear S; intro a S
                refine wpList_nil ?_
                exact RPost.mk_ S rfl S0 R1 (Below.refl _ _)
              refine RunAll.cons (isI .i64 c_3) [] rfl rfl ?_ ?_
              · intro W_ hW
                have S1 := S
                refine fill_nil S1 ?_; clear S1; intro a_ S1
                have S0 := S.defers; replace S := S1; clear S1
                refine wl_pure (l' := [(23, .int .i64 c_3), (5, .int .i64 c_3), (0, v0), (1, v1)]) S tys tys_ok 1 (by kernel_rfl) ?_; clear S; intro a S
                refine wpList_nil ?_
                exact RPost.mk_ S rfl S0 ⟨rfl, G_4⟩ (Below.refl _ _)
              refine RunAll.cons (isEl (.sl (.int .u8)) (Kx K w.heap.size []) y_19) [(isRep (.sl (.sl (.int .u8))) (Kx K w.heap.size []) x1, 22), (isI .i64 c_3, 23)] rfl rfl ?_ ?_
              · intro W_ hW
                have S1 := S
                intro v_42 hF_41; replace hF_41 : RepV _ _ _ _ _ := hF_41
                replace S1 := S1.put (by decide : 22 < 28) (v_42)
                rintro _ ⟨rfl, hF_43⟩
                replace S1 := S1.put (by decide : 23 < 28) (.int .i64 c_3)
                refine fill_nil S1 ?_; clear S1; intro a_ S1
                replace W := W.step hW
                have S0 := S.defers; replace S := S1; clear S1
                refine w_go S rfl (op_indexAddr S rfl ty23 rfl rfl rfl hF_41 rfl ey_19 ?_)
                clear S; intro a p_45 R_46 H_47 S
                refine wpList_nil ?_
                exact RPost.mk_ S rfl S0 ⟨_, rfl, R_46, H_47⟩ (Below.refl _ _)
              refine RunAll.cons (isRep (.sl (.int .u8)) (Kx K w.heap.size []) y_19) [(isEl (.sl (.int .u8)) (Kx K w.heap.size []) y_19, 24)] rfl rfl ?_ ?_
              · intro W_ hW
                have S1 := S
                rintro _ ⟨p_50, rfl, R_51, H_52⟩
                replace S1 := S1.put (by decide : 24 < 28) (.pointer (some p_50))
                refine fill_nil S1 ?_; clear S1; intro a_ S1
                have S0 := S.defers; replace S := S1; clear S1
                refine w_go S rfl (op_load (t := (.sl (.int .u8))) (x := y_19) S rfl ty28 rfl rfl rfl R_51 ?_)
                clear S; intro a v_53 R_54 S
                refine wpList_nil ?_
                exact RPost.mk_ S rfl S0 R_54 (Below.refl _ _)
              refine RunAll.cons (isS y_19.xs) [(isRep (.sl (.int .u8)) (Kx K w.heap.size []) y_19, 25)] rfl rfl ?_ ?_
              · intro W_ hW
                have S1 := S
                intro v_56 hF_55; replace hF_55 : RepV _ _ _ _ _ := hF_55
                replace S1 := S1.put (by decide : 25 < 28) (v_56)
                refine fill_nil S1 ?_; clear S1; intro a_ S1
                replace W := W.step hW
                have S0 := S.defers; replace S := S1; clear S1
                refine w_go S rfl (op_str (K := _) S rfl ty28 ty9 rfl rfl rfl hF_55 ?_)
                clear S; intro a S
                refine wpList_nil ?_
                exact RPost.mk_ S rfl S0 ⟨rfl, hF_55.byt⟩ (Below.refl _ _)
              refine RunAll.cons (eqv (.bool (!(decide (y_13.xs = y_19.xs))))) [(isS y_13.xs, 21), (isS y_19.xs, 26)] rfl rfl ?_ ?_
              · intro W_ hW
                have S1 := S
                rintro _ ⟨rfl, hF_57⟩
                replace S1 := S1.put (by decide : 21 < 28) (.string (strOfNums y_13.xs))
                rintro _ ⟨rfl, hF_59⟩
                replace S1 := S1.put (by decide : 26 < 28) (.string (strOfNums y_19.xs))
                refine fill_nil S1 ?_; clear S1; intro a_ S1
                have S0 := S.defers; replace S := S1; clear S1
                refine w_go S rfl (op_strne S rfl rfl rfl rfl rfl (hF_57).1 (hF_59).1 ?_)
                clear S; intro a S
                refine wpList_nil ?_
                exact RPost.mk_ S rfl S0 rfl (Below.refl _ _)
              exact trivial
            intro w_61 hb_62
            refine EndE.some_ rfl ?_
            intro v_64 hF_63; replace hF_63 : RepV _ _ _ _ _ := hF_63
            replace S := S.put (by decide : 17 < 28) (v_64)
            refine EndE.some_ rfl ?_
            rintro _ ⟨rfl, hF_65⟩
            replace S := S.put (by decide : 18 < 28) (.int .i64 c_3)
            refine EndE.some_ rfl ?_
            rintro _ ⟨p_69, rfl, R_70, H_71⟩
            replace S := S.put (by decide : 19 < 28) (.pointer (some p_69))
            refine EndE.some_ rfl ?_
            intro v_73 hF_72; replace hF_72 : RepV _ _ _ _ _ := hF_72
            replace S := S.put (by decide : 20 < 28) (v_73)
            refine EndE.some_ rfl ?_
            rintro _ ⟨rfl, hF_74⟩
            replace S := S.put (by decide : 21 < 28) (.string (strOfNums y_13.xs))
            refine EndE.some_ rfl ?_
            intro v_77 hF_76; replace hF_76 : RepV _ _ _ _ _ := hF_76
            replace S := S.put (by decide : 22 < 28) (v_77)
            refine EndE.some_ rfl ?_
            rintro _ ⟨rfl, hF_78⟩
            replace S := S.put (by decide : 23 < 28) (.int .i64 c_3)
            refine EndE.some_ rfl ?_
            rintro _ ⟨p_82, rfl, R_83, H_84⟩
            replace S := S.put (by decide : 24 < 28) (.pointer (some p_82))
            refine EndE.some_ rfl ?_
            intro v_86 hF_85; replace hF_85 : RepV _ _ _ _ _ := hF_85
            replace S := S.put (by decide : 25 < 28) (v_86)
            refine EndE.some_ rfl ?_
            rintro _ ⟨rfl, hF_87⟩
            replace S := S.put (by decide : 26 < 28) (.string (strOfNums y_19.xs))
            refine EndE.some_ rfl ?_
            intro v_90 hF_89; obtain rfl : .bool (!(decide (y_13.xs = y_19.xs))) = v_90 := Eq.symm hF_89
            replace S := S.put (by decide : 27 < 28) (.bool (!(decide (y_13.xs = y_19.xs))))
            refine endE_nil S ?_; clear S; intro a S
            replace R0 := R0.step hb_62
            replace R1 := R1.step hb_62
            replace W := W.step hb_62
            refine then_n ?_
            replace S := S.sub (l' := [(27, .bool (!(decide (y_13.xs = y_19.xs)))), (5, .int .i64 c_3), (0, v0), (1, v1)]) (by exact ⟨rfl, rfl, rfl, rfl, trivial⟩)
            refine wp_cond_split (S.eval (show ev _ _ = some (.bool (!(decide (y_13.xs = y_19.xs)))) from rfl)) ?_ ?_
            · intro hc
              rw [if_pos hc] at hl_10
              refine wp_seq ?_
              refine wp_region_lit ?_
              refine wl_pure (l' := [(4, .bool false), (27, .bool (!(decide (y_13.xs = y_19.xs)))), (5, .int .i64 c_3), (0, v0), (1, v1)]) S tys tys_ok 1 (by kernel_rfl) ?_
              clear S; intro a S
              refine wpList_nil ?_
              refine then_n ?_
              replace S := S.sub (l' := [(4, .bool false)]) (by exact ⟨rfl, trivial⟩)
              refine wp_ret ?_
              refine blk_r ?_
              refine then_r ?_
              refine then_r ?_
              refine blk_r ?_
              refine then_r ?_
              refine then_r ?_
              obtain rfl := Option.some.inj hl_10
              obtain rfl := lr_inr h
              exact b_ret1 S rfl rfl ⟨_, rfl, RepV.mkBool, W.below⟩
            · intro hc
              rw [if_neg (Bool.eq_false_iff.1 hc)] at hl_10
              refine wp_skip ?_
              refine blk_n ?_
              refine then_n ?_
              replace S := S.sub (l' := [(5, .int .i64 c_3), (0, v0), (1, v1)]) (by exact ⟨rfl, rfl, rfl, trivial⟩)
              refine wp_region_lit ?_
              refine wl_pure (l' := [(15, .int .i64 c_3), (5, .int .i64 c_3), (0, v0), (1, v1)]) S tys tys_ok 1 (by kernel_rfl) ?_
              clear S; intro a S
              obtain ⟨x_91, ex_91, hl_10⟩ := bindS hl_10
              refine w_go S rfl (op_arith S .i64 (c_3 + 1) rfl (.inl rfl) rfl rfl rfl rfl ex_91 ?_)
              clear S; intro a S
              refine wl_pure (l' := [(5, .int .i64 x_91), (16, .int .i64 x_91), (15, .int .i64 c_3), (5, .int .i64 c_3), (0, v0), (1, v1)]) S tys tys_ok 1 (by kernel_rfl) ?_
              clear S; intro a S
              refine wpList_nil ?_
              refine then_n ?_
              exact ⟨x_91, ⟨S.sub (by exact ⟨rfl, rfl, rfl, trivial⟩), W, (ckI_some ex_91).2.1, R0, R1, hl_10⟩⟩
          · intro hc
            rw [if_neg (Bool.eq_false_iff.1 hc)] at hl_10
            refine wp_exit ?_
            refine then_x ?_
            refine then_x ?_
            refine blk_hit ?_
            refine then_n ?_
            obtain rfl := Option.some.inj hl_10
            exact ⟨_, rfl, ⟨S.sub trivial, W⟩⟩
    clear S W; rintro a w_92 ⟨s_8, rfl, S, W⟩
    replace h := lr_inl h; try dsimp only at h
    refine then_n ?_
    refine wp_seq ?_
    refine wp_region_lit ?_
    refine wl_pure (l' := [(4, .bool true)]) S tys tys_ok 1 (by kernel_rfl) ?_
    clear S; intro a S
    refine wpList_nil ?_
    refine then_n ?_
    refine wp_ret ?_
    obtain rfl := Option.some.inj h
    exact b_ret1 S rfl rfl ⟨_, rfl, RepV.mkBool, W.below⟩
theorem cb13 : callB Try.prog 13 = true := by kernel_rfl

end Go.Proofs.Ytlgalcekkffhnaa
