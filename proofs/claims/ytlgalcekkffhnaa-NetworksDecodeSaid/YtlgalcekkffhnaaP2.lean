/- Functions of the program, as plain data. -/
import Derived.Test.YtlgalcekkffhnaaP1
set_option linter.unusedVariables false
set_option linter.unusedSimpArgs false
namespace Go.Proofs.Ytlgalcekkffhnaa
open Go.RowKit

def p12_l1 (n : Nat) (x0 : Sl (Int)) (t_23 : (Int)) (t_351 : (Int)) : Nat → (Int) → (List (Sl (Int))) → Option (((List (Sl (Int)))) ⊕ ((Int × (Sl (Sl (Int)))) × (Int)))
 | 0, _, _ => .none
 | m + 1, c_417, c_419 => (ckI .i64 (t_23 + t_351)).bind fun x_435 => (ckI .i64 (x_435 - 4)).bind fun x_436 => if (decide (c_417 < x_436)) then ((p25 n c_417 x0).bind fun t_437 => (ckI .i64 (c_417 + 2)).bind fun x_442 => (p25 n x_442 x0).bind fun t_443 => (if (t_437 == 0) = true then some (t_443 == 0) else some false).bind fun q_448 => if q_448 then (some (.inl c_419)) else (if (decide (t_437 < 12)) = false then (remI .i64 t_437 4).bind fun x_450 => some (x_450 != 0) else some true).bind fun q_449 => (if q_449 = false then some (decide (t_443 < 1)) else some true).bind fun q_451 => (if q_451 = false then some (decide (t_443 > 1514)) else some true).bind fun q_452 => (if q_452 = false then (ckI .i64 (t_437 + t_443)).bind fun x_454 => some (decide (x_454 > (lenI x0))) else some true).bind fun q_453 => if q_453 then (some (.inr ((0, (⟨[], some 0⟩ : Sl (Sl (Int)))), 4))) else (ckI .i64 (t_437 + t_443)).bind fun x_469 => (slI x0 t_437 x_469).bind fun s_472 => (p26 n s_472).bind fun t_473 => (p24 n t_473).bind fun t_478 => (appI c_419 ([t_478])).bind fun l_547 => (ckI .i64 (c_417 + 4)).bind fun x_554 => p12_l1 n x0 t_23 t_351 m x_554 l_547) else some (.inl c_419)
def p12 (n : Nat) (x0 : Sl (Int)) : Option ((Int × (Sl (Sl (Int)))) × (Int)) :=
 (if (decide ((lenI x0) < 12)) = false then some (decide ((lenI x0) > 16384)) else some true).bind fun q_12 =>
 if q_12 then (some ((0, (⟨[], some 0⟩ : Sl (Sl (Int)))), 4)) else (p25 n 10 x0).bind fun t_23 => (slI x0 0 4).bind fun s_32 => (if (!(decide (s_32.xs = [78, 67, 77, 72]))) = false then (p25 n 4 x0).bind fun t_35 => some (t_35 != 12) else some true).bind fun q_33 => (if q_33 = false then (p25 n 8 x0).bind fun t_42 => some (t_42 != (lenI x0)) else some true).bind fun q_40 => (if q_40 = false then some (decide (t_23 < 12)) else some true).bind fun q_50 => (if q_50 = false then (remI .i64 t_23 4).bind fun x_54 => some (x_54 != 0) else some true).bind fun q_52 => (if q_52 = false then (ckI .i64 (t_23 + 12)).bind fun x_57 => some (decide (x_57 > (lenI x0))) else some true).bind fun q_55 => if q_55 then (some ((0, (⟨[], some 0⟩ : Sl (Sl (Int)))), 4)) else (ckI .i64 (t_23 + 4)).bind fun x_350 => (p25 n x_350 x0).bind fun t_351 => (ckI .i64 (t_23 + 4)).bind fun x_358 => (slI x0 t_23 x_358).bind fun s_361 => (if (!(decide (s_361.xs = [78, 67, 77, 48]))) = false then some (decide (t_351 < 12)) else some true).bind fun q_362 => (if q_362 = false then (remI .i64 t_351 4).bind fun x_364 => some (x_364 != 0) else some true).bind fun q_363 => (if q_363 = false then (ckI .i64 (t_23 + t_351)).bind fun x_366 => some (decide (x_366 > (lenI x0))) else some true).bind fun q_365 => (if q_365 = false then (ckI .i64 (t_23 + 6)).bind fun x_371 => (p25 n x_371 x0).bind fun t_372 => some (t_372 != 0) else some true).bind fun q_370 => (if q_370 = false then (ckI .i64 (t_23 + t_351)).bind fun x_379 => (ckI .i64 (x_379 - 4)).bind fun x_380 => (p25 n x_380 x0).bind fun t_381 => some (t_381 != 0) else some true).bind fun q_378 => (if q_378 = false then (ckI .i64 (t_23 + t_351)).bind fun x_388 => (ckI .i64 (x_388 - 2)).bind fun x_389 => (p25 n x_389 x0).bind fun t_390 => some (t_390 != 0) else some true).bind fun q_387 => if q_387 then (some ((0, (⟨[], some 0⟩ : Sl (Sl (Int)))), 4)) else (p25 n 6 x0).bind fun t_403 => (ckI .i64 (t_23 + 8)).bind fun x_416 => (p12_l1 n x0 t_23 t_351 n x_416 []).bind fun (y_427 : ((List (Sl (Int)))) ⊕ ((Int × (Sl (Sl (Int)))) × (Int))) => lrK y_427 some fun (s_428 : (List (Sl (Int)))) => if (decide ((lenI (⟨s_428, .none⟩ : Sl (Sl (Int)))) > 64)) then (some ((0, (⟨[], some 0⟩ : Sl (Sl (Int)))), 3)) else (p27 n (⟨s_428, .none⟩ : Sl (Sl (Int)))).bind fun t_569 => some ((IntKind.wrap .u16 t_403, t_569), 0)
set_option maxHeartbeats 4000000 in
set_option maxRecDepth 100000 in
/-- plugboard/networks.Decode -/
theorem c12 (K : Nat → Prop) (n : Nat) (w : World) (x0 : Sl (Int)) (v0 : Value) (R0 : RepV (.sl (.int .u8)) w K v0 x0) {r : (Int × (Sl (Sl (Int)))) × (Int)} (h : p12 n x0 = some r) :
  Calls Try.prog 12 #[v0] w (Ret2 gt0 (.int .i64) w (Kx K w.heap.size []) r) := by
 refine enter (args := [v0]) Try.func12 rfl 184 rfl rfl fun a S => ?_
 have W := Wd.start w
 replace R0 := R0.arg
 unfold p12 at h
 replace S : St 184 a [(0, v0)] := S
 refine wp_seq ?_
 refine wp_region_lit ?_
 refine w_go S rfl (op_box S rfl rfl rfl rfl rfl R0 ?_)
 clear S; intro a w_3 b_1 hb_4 B_2 S
 replace R0 := R0.box hb_4
 replace W := W.box hb_4
 refine w_go S rfl (op_alloc (K := K) (n := w.heap.size) (L := [some b_1]) (t := (.st (.pair (.int .u16) .raw))) (y := (0, (.slice .none 0 0))) S rfl rfl rfl _ z25 (fun w K => ⟨[.int .u16 0], [.slice .none 0 0], rfl, ⟨rfl, by decide⟩, ⟨rfl, _, _, _, rfl⟩⟩) ?_)
 clear S; intro a w_7 b_5 hb_8 B_6 S
 replace R0 := R0.box hb_8
 replace B_2 := B_2.box hb_8
 replace W := W.box hb_8
 refine wl_pure (l' := [(3, .int .i64 0), (2, pB b_5), (1, pB b_1), (0, v0)]) S tys tys_ok 1 (by kernel_rfl) ?_
 clear S; intro a S
 refine wpList_nil ?_
 refine then_n ?_
 replace S := S.sub (l' := [(2, pB b_5), (1, pB b_1)]) (by exact ⟨rfl, rfl, trivial⟩)
 refine wp_seq ?_
 refine wp_seq ?_
 refine wp_region_lit ?_
 refine w_go S rfl (op_load (t := (.sl (.int .u8))) (x := x0) S rfl ty28 rfl rfl rfl B_2.at_ ?_)
 clear S; intro a v_9 R_10 S
 refine w_go S rfl (op_len (K := _) S rfl ty28 rfl rfl rfl R_10 ?_)
 clear S; intro a G_11 S
 refine wl_pureK (l' := [(14, .bool (decide ((lenI x0) < 12))), (2, pB b_5), (1, pB b_1)]) S tys tys_ok 2 [14, 2, 1] (by kernel_rfl) ?_
 clear S; intro a S
 obtain ⟨q_12, eq_12, h⟩ := bindS h
 refine seg 4 (fun a_ w_ => w_7 = w_ ∧ St 184 a_ [(18, .bool q_12), (2, pB b_5), (1, pB b_1)]) ?_ ?_
 ·by_cases hc : (decide ((lenI x0) < 12)) = false
  ·rw [if_pos hc] at eq_12; rw [hc] at S
   refine w_go S rfl (op_load (t := (.sl (.int .u8))) (x := x0) S rfl ty28 rfl rfl rfl B_2.at_ ?_)
   clear S; intro a v_13 R_14 S
   refine w_go S rfl (op_len (K := _) S rfl ty28 rfl rfl rfl R_14 ?_)
   clear S; intro a G_15 S
   refine wl_pureK (l' := [(18, .bool (decide ((lenI x0) > 16384))), (2, pB b_5), (1, pB b_1)]) S tys tys_ok 2 [18, 2, 1] (by kernel_rfl) ?_
   clear S; intro a S
   obtain rfl := Option.some.inj eq_12
   exact ⟨rfl, S.sub (by exact ⟨rfl, rfl, rfl, trivial⟩)⟩
  ·rw [if_neg hc] at eq_12; rw [show (decide ((lenI x0) < 12)) = true from (by simpa using hc)] at S
   refine wl_pureK (l' := [(18, .bool true), (2, pB b_5), (1, pB b_1)]) S tys tys_ok 4 [18, 2, 1] (by kernel_rfl) ?_
   clear S; intro a S
   obtain rfl := Option.some.inj eq_12
   exact ⟨rfl, S.sub (by exact ⟨rfl, rfl, rfl, trivial⟩)⟩
 clear S eq_12; rintro a _ ⟨rfl, S⟩
 refine wpList_nil ?_
 refine then_n ?_
 refine wp_cond_split (S.eval (show ev _ _ = some (.bool q_12) from rfl)) ?_ ?_
 ·intro hc
  rw [if_pos hc] at h
  refine wp_seq ?_
  refine wp_region_lit ?_
  refine w_go S rfl (op_build (K := (Kx K w.heap.size [some b_5, some b_1])) (f := (.pair (.int .u16) .raw)) (z0 := (0, (.slice .none 0 0))) (x := (0, (.slice .none 0 0))) (vs := []) S _ rfl tyw25_1 z25 (fun w K => ⟨[.int .u16 0], [.slice .none 0 0], rfl, ⟨rfl, by decide⟩, ⟨rfl, _, _, _, rfl⟩⟩) rfl rfl rfl [] rfl rfl ?_)
  clear S; intro a v_16 R_17 S
  refine w_go S rfl (op_store (t' := (.st (.pair (.int .u16) .raw))) S rfl rfl tyw25_1 rfl rfl rfl B_6 (by simp) Ln.whole R_17 ?_)
  intro w_18 hw_19 B_
  replace R_17 := R_17.wrote hw_19 (by simp)
  replace B_2 := B_2.wrote hw_19 (by simp) (W.bne (p := 1) (q := 0) (by decide) rfl rfl)
  replace W := W.wrote hw_19 (by simp)
  replace B_6 : Bx (.st (.pair (.int .u16) .raw)) 25 w_18 (Kx K w.heap.size [some b_5, some b_1]) b_5 (0, (.slice .none 0 0)) := B_; clear B_
  refine wl_pureK (l' := [(3, .int .i64 4), (2, pB b_5)]) S tys tys_ok 1 [3, 2] (by kernel_rfl) ?_
  clear S; intro a S
  refine wpList_nil ?_
  refine then_n ?_
  refine wp_ret ?_
  refine then_r ?_
  replace B_6 : Bx gt0 25 w_18 (Kx K w.heap.size [some b_5, some b_1]) b_5 (0, (⟨[], some 0⟩ : Sl (Sl (Int)))) := Bx.unrawX (t' := gt0) (Lx.st (Lx.right Lx.here)) B_6 RepV.nil
  obtain ⟨v_20, hr_21, R_22⟩ := res_cell (P := Try.prog) (T := 25) (t := gt0) (x := (0, (⟨[], some 0⟩ : Sl (Sl (Int))))) S (s := 2) rfl ty25 B_6.at_
  obtain rfl := Option.some.inj h
  exact b_res2 S rfl hr_21 (res_tmp S rfl) ⟨_, _, rfl, R_22.out, (RepV.mkInt (by decide)), W.below⟩
 ·intro hc
  rw [if_neg (Bool.eq_false_iff.1 hc)] at h
  refine wp_skip ?_
  refine then_n ?_
  replace S := S.sub (l' := [(2, pB b_5), (1, pB b_1)]) (by exact ⟨rfl, rfl, trivial⟩)
  refine wp_seq ?_
  refine wp_region_lit ?_
  refine w_go S rfl (op_mkfn (vs := []) (us := [pB b_1]) S rfl rfl rfl rfl rfl ?_)
  clear S; intro a S
  refine wl_pure (l' := [(4, .func (.func 25) #[] #[pB b_1]), (20, .func (.func 25) #[] #[pB b_1]), (2, pB b_5), (1, pB b_1)]) S tys tys_ok 1 (by kernel_rfl) ?_
  clear S; intro a S
  refine wpList_nil ?_
  refine then_n ?_
  replace S := S.sub (l' := [(4, .func (.func 25) #[] #[pB b_1]), (2, pB b_5), (1, pB b_1)]) (by exact ⟨rfl, rfl, rfl, trivial⟩)
  refine wp_seq ?_
  refine wp_region_lit ?_
  refine wl_pure (l' := [(21, .func (.func 25) #[] #[pB b_1]), (4, .func (.func 25) #[] #[pB b_1]), (2, pB b_5), (1, pB b_1)]) S tys tys_ok 1 (by kernel_rfl) ?_
  clear S; intro a S
  obtain ⟨t_23, et_23, h⟩ := bindS h
  refine w_go S rfl (op_calld (vs := [.int .i64 10]) S rfl rfl cb25 rfl rfl rfl (c25 (Kx K w.heap.size [some b_5, some b_1]) n w_7 10 (by decide) _ x0 (Bx.br B_2) et_23) ?_)
  rintro _ w_27 ⟨v_24, rfl, R_25, hb_26⟩; refine ⟨_, rfl, ?_⟩
  replace R_25 := RepV.back R_25 W
  clear S; intro a S
  replace B_2 := B_2.step hb_26
  replace B_6 := B_6.step hb_26
  replace W := W.step hb_26
  obtain ⟨rfl, GR_25⟩ := RepV.int R_25
  refine wl_pure (l' := [(5, .int .i64 t_23), (22, .int .i64 t_23), (21, .func (.func 25) #[] #[pB b_1]), (4, .func (.func 25) #[] #[pB b_1]), (2, pB b_5), (1, pB b_1)]) S tys tys_ok 1 (by kernel_rfl) ?_
  clear S; intro a S
  refine wpList_nil ?_
  refine then_n ?_
  replace S := S.sub (l' := [(5, .int .i64 t_23), (4, .func (.func 25) #[] #[pB b_1]), (2, pB b_5), (1, pB b_1)]) (by exact ⟨rfl, rfl, rfl, rfl, trivial⟩)
  refine wp_seq ?_
  refine wp_seq ?_
  obtain ⟨s_32, es_32, h⟩ := bindS h
  obtain ⟨q_33, eq_33, h⟩ := bindS h
  obtain ⟨t_35, HG_34⟩ : ∃ (t_35 : (Int)) , ((!(decide (s_32.xs = [78, 67, 77, 72]))) = false → (p25 n 4 x0) = some t_35 ∧ (t_35 != 12) = q_33) ∧ (¬ (!(decide (s_32.xs = [78, 67, 77, 72]))) = false → true = q_33) := by
   by_cases hc : (!(decide (s_32.xs = [78, 67, 77, 72]))) = false
   ·rw [if_pos hc] at eq_33
    obtain ⟨t_35, et_35, eq_33⟩ := bindS eq_33
    exact ⟨t_35, ⟨fun _ => ⟨et_35, Option.some.inj eq_33⟩, fun k_ => absurd hc k_⟩⟩
   ·rw [if_neg hc] at eq_33
    exact ⟨default, ⟨fun k_ => absurd k_ hc, fun _ => Option.some.inj eq_33⟩⟩
  obtain ⟨q_40, eq_40, h⟩ := bindS h
  obtain ⟨t_42, HG_41⟩ : ∃ (t_42 : (Int)) , (q_33 = false → (p25 n 8 x0) = some t_42 ∧ (t_42 != (lenI x0)) = q_40) ∧ (¬ q_33 = false → true = q_40) := by
   by_cases hc : q_33 = false
   ·rw [if_pos hc] at eq_40
    obtain ⟨t_42, et_42, eq_40⟩ := bindS eq_40
    exact ⟨t_42, ⟨fun _ => ⟨et_42, Option.some.inj eq_40⟩, fun k_ => absurd hc k_⟩⟩
   ·rw [if_neg hc] at eq_40
    exact ⟨default, ⟨fun k_ => absurd k_ hc, fun _ => Option.some.inj eq_40⟩⟩
  obtain ⟨q_50, eq_50, h⟩ := bindS h
  have HG_51 : (q_40 = false → (decide (t_23 < 12)) = q_50) ∧ (¬ q_40 = false → true = q_50) := by
   by_cases hc : q_40 = false
   ·rw [if_pos hc] at eq_50
    exact ⟨fun _ => Option.some.inj eq_50, fun k_ => absurd hc k_⟩
   ·rw [if_neg hc] at eq_50
    exact ⟨fun k_ => absurd k_ hc, fun _ => Option.some.inj eq_50⟩
  obtain ⟨q_52, eq_52, h⟩ := bindS h
  obtain ⟨x_54, HG_53⟩ : ∃ (x_54 : Int) , (q_50 = false → (remI .i64 t_23 4) = some x_54 ∧ (x_54 != 0) = q_52) ∧ (¬ q_50 = false → true = q_52) := by
   by_cases hc : q_50 = false
   ·rw [if_pos hc] at eq_52
    obtain ⟨x_54, ex_54, eq_52⟩ := bindS eq_52
    exact ⟨x_54, ⟨fun _ => ⟨ex_54, Option.some.inj eq_52⟩, fun k_ => absurd hc k_⟩⟩
   ·rw [if_neg hc] at eq_52
    exact ⟨default, ⟨fun k_ => absurd k_ hc, fun _ => Option.some.inj eq_52⟩⟩
  obtain ⟨q_55, eq_55, h⟩ := bindS h
  obtain ⟨x_57, HG_56⟩ : ∃ (x_57 : Int) , (q_52 = false → (ckI .i64 (t_23 + 12)) = some x_57 ∧ (decide (x_57 > (lenI x0))) = q_55) ∧ (¬ q_52 = false → true = q_55) := by
   by_cases hc : q_52 = false
   ·rw [if_pos hc] at eq_55
    obtain ⟨x_57, ex_57, eq_55⟩ := bindS eq_55
    exact ⟨x_57, ⟨fun _ => ⟨ex_57, Option.some.inj eq_55⟩, fun k_ => absurd hc k_⟩⟩
   ·rw [if_neg hc] at eq_55
    exact ⟨default, ⟨fun k_ => absurd k_ hc, fun _ => Option.some.inj eq_55⟩⟩
  have hR : Rel (Kx K w.heap.size [some b_5, some b_1]) Bl := Bl.rel _
  refine wp_region_all hR [isRep (.sl (.int .u8)) (Kx K w.heap.size [some b_5, some b_1]) x0, isRep (.sl (.int .u8)) (Kx K w.heap.size [some b_5, some b_1]) s_32, isS s_32.xs, eqv (.bool (!(decide (s_32.xs = [78, 67, 77, 72])))), eqv (.bool (!(decide (s_32.xs = [78, 67, 77, 72])))), cndF (!(decide (s_32.xs = [78, 67, 77, 72]))) false (eqv (.func (.func 25) #[] #[pB b_1])), cndF (!(decide (s_32.xs = [78, 67, 77, 72]))) false (isI .i64 t_35), cndF (!(decide (s_32.xs = [78, 67, 77, 72]))) false (eqv (.bool (t_35 != 12))), eqv (.bool q_33), eqv (.bool q_33), cndF q_33 false (eqv (.func (.func 25) #[] #[pB b_1])), cndF q_33 false (isI .i64 t_42), cndF q_33 false (isRep (.sl (.int .u8)) (Kx K w.heap.size [some b_5, some b_1]) x0), cndF q_33 false (isI .i64 (lenI x0)), cndF q_33 false (eqv (.bool (t_42 != (lenI x0)))), eqv (.bool q_40), eqv (.bool q_40), cndF q_40 false (isI .i64 t_23), cndF q_40 false (eqv (.bool (decide (t_23 < 12)))), eqv (.bool q_50), eqv (.bool q_50), cndF q_50 false (isI .i64 t_23), cndF q_50 false (isI .i64 x_54), cndF q_50 false (eqv (.bool (x_54 != 0))), eqv (.bool q_52), eqv (.bool q_52), cndF q_52 false (isI .i64 t_23), cndF q_52 false (isI .i64 x_57), cndF q_52 false (isRep (.sl (.int .u8)) (Kx K w.heap.size [some b_5, some b_1]) x0), cndF q_52 false (isI .i64 (lenI x0)), cndF q_52 false (eqv (.bool (decide (x_57 > (lenI x0))))), eqv (.bool q_55)] [[], [(0, 23)], [(1, 24)], [(2, 25)], [(3, 26)], [(4, 27)], [(5, 28), (4, 27)], [(6, 29), (4, 27)], [(4, 27), (7, 30)], [(8, 31)], [(9, 32)], [(10, 33), (9, 32)], [(9, 32)], [(12, 35), (9, 32)], [(11, 34), (13, 36), (9, 32)], [(9, 32), (14, 37)], [(15, 38)], [(16, 39)], [(17, 40), (16, 39)], [(16, 39), (18, 41)], [(19, 42)], [(20, 43)], [(21, 44), (20, 43)], [(22, 45), (20, 43)], [(20, 43), (23, 46)], [(24, 47)], [(25, 48)], [(26, 49), (25, 48)], [(25, 48)], [(28, 51), (25, 48)], [(27, 50), (29, 52), (25, 48)], [(25, 48), (30, 53)]] (by kernel_rfl) (by rw [S.size]; kernel_rfl) (by kernel_rfl) (by kernel_rfl) rfl ⟨(stab_rep hR), (stab_rep hR), stab_S, (stab_eqv _), (stab_eqv _), (stab_cnd (stab_eqv _)), (stab_cnd stab_I), (stab_cnd (stab_eqv _)), (stab_eqv _), (stab_eqv _), (stab_cnd (stab_eqv _)), (stab_cnd stab_I), (stab_cnd (stab_rep hR)), (stab_cnd stab_I), (stab_cnd (stab_eqv _)), (stab_eqv _), (stab_eqv _), (stab_cnd stab_I), (stab_cnd (stab_eqv _)), (stab_eqv _), (stab_eqv _), (stab_cnd stab_I), (stab_cnd stab_I), (stab_cnd (stab_eqv _)), (stab_eqv _), (stab_eqv _), (stab_cnd stab_I), (stab_cnd stab_I), (stab_cnd (stab_rep hR)), (stab_cnd stab_I), (stab_cnd (stab_eqv _)), (stab_eqv _), trivial⟩ ?_ ?_
  ·
   refine RunAll.cons (isRep (.sl (.int .u8)) (Kx K w.heap.size [some b_5, some b_1]) x0) [] rfl rfl ?_ ?_
   ·intro W_ hW
    have S1 := S
    refine fill_nil S1 ?_; clear S1; intro a_ S1
    replace B_2 := B_2.step hW
    have S0 := S.defers; replace S := S1; clear S1
    refine w_go S rfl (op_load (t := (.sl (.int .u8))) (x := x0) S rfl ty28 rfl rfl rfl B_2.at_ ?_)
    clear S; intro a v_61 R_62 S
    refine wpList_nil ?_
    exact RPost.mk_ S rfl S0 R_62 (Below.refl _ _)
   refine RunAll.cons (isRep (.sl (.int .u8)) (Kx K w.heap.size [some b_5, some b_1]) s_32) [(isRep (.sl (.int .u8)) (Kx K w.heap.size [some b_5, some b_1]) x0, 23)] rfl rfl ?_ ?_
   ·intro W_ hW
    have S1 := S
    intro v_64 hF_63; replace hF_63 : RepV _ _ _ _ _ := hF_63
    replace S1 := S1.put (by decide : 23 < 184) (v_64)
    refine fill_nil S1 ?_; clear S1; intro a_ S1
    have S0 := S.defers; replace S := S1; clear S1
    refine w_go S rfl (op_slice S rfl ty28 rfl rfl rfl hF_63 (.inl ⟨rfl, rfl⟩) (.inr ⟨_, _, rfl, rfl⟩) es_32 ?_)
    clear S; intro a v_65 R_66 S
    refine wpList_nil ?_
    exact RPost.mk_ S rfl S0 R_66 (Below.refl _ _)
   refine RunAll.cons (isS s_32.xs) [(isRep (.sl (.int .u8)) (Kx K w.heap.size [some b_5, some b_1]) s_32, 24)] rfl rfl ?_ ?_
   ·intro W_ hW
    have S1 := S
    intro v_68 hF_67; replace hF_67 : RepV _ _ _ _ _ := hF_67
    replace S1 := S1.put (by decide : 24 < 184) (v_68)
    refine fill_nil S1 ?_; clear S1; intro a_ S1
    replace W := W.step hW
    have S0 := S.defers; replace S := S1; clear S1
    refine w_go S rfl (op_str (K := _) S rfl ty28 ty9 rfl rfl rfl hF_67 ?_)
    clear S; intro a S
    refine wpList_nil ?_
    exact RPost.mk_ S rfl S0 ⟨rfl, hF_67.byt⟩ (Below.refl _ _)
   refine RunAll.cons (eqv (.bool (!(decide (s_32.xs = [78, 67, 77, 72]))))) [(isS s_32.xs, 25)] rfl rfl ?_ ?_
   ·intro W_ hW
    have S1 := S
    rintro _ ⟨rfl, hF_69⟩
    replace S1 := S1.put (by decide : 25 < 184) (.string (strOfNums s_32.xs))
    refine fill_nil S1 ?_; clear S1; intro a_ S1
    have S0 := S.defers; replace S := S1; clear S1
    refine w_go S rfl (op_strne S rfl rfl rfl rfl (by kernel_rfl) (hF_69).1 ((strG ([78, 67, 77, 72]) (by decide) (by decide))).1 ?_)
    clear S; intro a S
    refine wpList_nil ?_
    exact RPost.mk_ S rfl S0 rfl (Below.refl _ _)
   refine RunAll.cons (eqv (.bool (!(decide (s_32.xs = [78, 67, 77, 72]))))) [(eqv (.bool (!(decide (s_32.xs = [78, 67, 77, 72])))), 26)] rfl rfl ?_ ?_
   ·intro W_ hW
    have S1 := S
    intro v_72 hF_71; obtain rfl : .bool (!(decide (s_32.xs = [78, 67, 77, 72]))) = v_72 := Eq.symm hF_71
    replace S1 := S1.put (by decide : 26 < 184) (.bool (!(decide (s_32.xs = [78, 67, 77, 72]))))
    exact RPost.one (v := .bool (!(decide (s_32.xs = [78, 67, 77, 72])))) S1 tys tys_ok rfl (by kernel_rfl) S.defers rfl (Below.refl _ _)
   refine RunAll.cons (cndF (!(decide (s_32.xs = [78, 67, 77, 72]))) false (eqv (.func (.func 25) #[] #[pB b_1]))) [(eqv (.bool (!(decide (s_32.xs = [78, 67, 77, 72])))), 27)] rfl rfl ?_ ?_
   ·intro W_ hW
    by_cases hc0 : (!(decide (s_32.xs = [78, 67, 77, 72]))) = false
    ·have hl0 : (!(decide (s_32.xs = [78, 67, 77, 72]))) = false := hc0
     have S1 := S
     intro v_74 hF_73; obtain rfl : .bool (!(decide (s_32.xs = [78, 67, 77, 72]))) = v_74 := Eq.symm hF_73
     replace S1 := S1.put (by decide : 27 < 184) (.bool (!(decide (s_32.xs = [78, 67, 77, 72]))))
     refine fill_nil S1 ?_; clear S1; intro a_ S1
     replace B_2 := B_2.step hW
     rw [show (!(decide (s_32.xs = [78, 67, 77, 72]))) = false from hl0] at S1
     exact RPost.one (v := .func (.func 25) #[] #[pB b_1]) S1 tys tys_ok rfl (by kernel_rfl) S.defers ⟨fun _ => rfl, fun k_ => absurd hc0 k_⟩ (Below.refl _ _)
    ·have hl0 : (!(decide (s_32.xs = [78, 67, 77, 72]))) = true := (by simpa using hc0)
     have S1 := S
     intro v_76 hF_75; obtain rfl : .bool (!(decide (s_32.xs = [78, 67, 77, 72]))) = v_76 := Eq.symm hF_75
     replace S1 := S1.put (by decide : 27 < 184) (.bool (!(decide (s_32.xs = [78, 67, 77, 72]))))
     refine fill_nil S1 ?_; clear S1; intro a_ S1
     rw [show (!(decide (s_32.xs = [78, 67, 77, 72]))) = true from hl0] at S1
     exact RPost.one (v := undef) S1 tys tys_ok rfl (by kernel_rfl) S.defers ⟨fun k_ => absurd k_ hc0, fun _ => rfl⟩ (Below.refl _ _)
   refine RunAll.cons (cndF (!(decide (s_32.xs = [78, 67, 77, 72]))) false (isI .i64 t_35)) [(cndF (!(decide (s_32.xs = [78, 67, 77, 72]))) false (eqv (.func (.func 25) #[] #[pB b_1])), 28), (eqv (.bool (!(decide (s_32.xs = [78, 67, 77, 72])))), 27)] rfl rfl ?_ ?_
   ·intro W_ hW
    by_cases hc0 : (!(decide (s_32.xs = [78, 67, 77, 72]))) = false
    ·have hl0 : (!(decide (s_32.xs = [78, 67, 77, 72]))) = false := hc0
     have S1 := S
     intro v_77 hF_78
     replace hF_78 := cndF.pos hF_78 hc0
     revert hF_78
     revert v_77
     intro v_80 hF_79; obtain rfl : .func (.func 25) #[] #[pB b_1] = v_80 := Eq.symm hF_79
     replace S1 := S1.put (by decide : 28 < 184) (.func (.func 25) #[] #[pB b_1])
     intro v_82 hF_81; obtain rfl : .bool (!(decide (s_32.xs = [78, 67, 77, 72]))) = v_82 := Eq.symm hF_81
     replace S1 := S1.put (by decide : 27 < 184) (.bool (!(decide (s_32.xs = [78, 67, 77, 72]))))
     refine fill_nil S1 ?_; clear S1; intro a_ S1
     replace B_2 := B_2.step hW
     replace W := W.step hW
     rw [show (!(decide (s_32.xs = [78, 67, 77, 72]))) = false from hl0] at S1
     have S0 := S.defers; replace S := S1; clear S1
     obtain ⟨et_35, _⟩ := (HG_34).1 hc0
     refine w_go S rfl (op_calld (vs := [.int .i64 4]) S rfl rfl cb25 rfl rfl rfl (c25 (Kx K w.heap.size [some b_5, some b_1]) n W_ 4 (by decide) _ x0 (Bx.br B_2) et_35) ?_)
     rintro _ w_86 ⟨v_83, rfl, R_84, hb_85⟩; refine ⟨_, rfl, ?_⟩
     replace R_84 := RepV.back R_84 W
     clear S; intro a S
     obtain ⟨rfl, GR_84⟩ := RepV.int R_84
     refine wpList_nil ?_
     exact RPost.mk_ S rfl S0 ⟨fun _ => ⟨rfl, GR_84⟩, fun k_ => absurd hc0 k_⟩ (hb_85)
    ·have hl0 : (!(decide (s_32.xs = [78, 67, 77, 72]))) = true := (by simpa using hc0)
     have S1 := S
     intro v_87 hF_88
     obtain rfl := cndF.neg hF_88 hc0
     replace S1 := S1.put (by decide : 28 < 184) (undef)
     intro v_90 hF_89; obtain rfl : .bool (!(decide (s_32.xs = [78, 67, 77, 72]))) = v_90 := Eq.symm hF_89
     replace S1 := S1.put (by decide : 27 < 184) (.bool (!(decide (s_32.xs = [78, 67, 77, 72]))))
     refine fill_nil S1 ?_; clear S1; intro a_ S1
     rw [show (!(decide (s_32.xs = [78, 67, 77, 72]))) = true from hl0] at S1
     exact RPost.one (v := undef) S1 tys tys_ok rfl (by kernel_rfl) S.defers ⟨fun k_ => absurd k_ hc0, fun _ => rfl⟩ (Below.refl _ _)
   refine RunAll.cons (cndF (!(decide (s_32.xs = [78, 67, 77, 72]))) false (eqv (.bool (t_35 != 12)))) [(cndF (!(decide (s_32.xs = [78, 67, 77, 72]))) false (isI .i64 t_35), 29), (eqv (.bool (!(decide (s_32.xs = [78, 67, 77, 72])))), 27)] rfl rfl ?_ ?_
   ·intro W_ hW
    by_cases hc0 : (!(decide (s_32.xs = [78, 67, 77, 72]))) = false
    ·have hl0 : (!(decide (s_32.xs = [78, 67, 77, 72]))) = false := hc0
     have S1 := S
     intro v_91 hF_92
     replace hF_92 := cndF.pos hF_92 hc0
     revert hF_92
     revert v_91
     rintro _ ⟨rfl, hF_93⟩
     replace S1 := S1.put (by decide : 29 < 184) (.int .i64 t_35)
     intro v_96 hF_95; obtain rfl : .bool (!(decide (s_32.xs = [78, 67, 77, 72]))) = v_96 := Eq.symm hF_95
     replace S1 := S1.put (by decide : 27 < 184) (.bool (!(decide (s_32.xs = [78, 67, 77, 72]))))
     refine fill_nil S1 ?_; clear S1; intro a_ S1
     rw [show (!(decide (s_32.xs = [78, 67, 77, 72]))) = false from hl0] at S1
     exact RPost.one (v := .bool (t_35 != 12)) S1 tys tys_ok rfl (by kernel_rfl) S.defers ⟨fun _ => rfl, fun k_ => absurd hc0 k_⟩ (Below.refl _ _)
    ·have hl0 : (!(decide (s_32.xs = [78, 67, 77, 72]))) = true := (by simpa using hc0)
     have S1 := S
     intro v_97 hF_98
     obtain rfl := cndF.neg hF_98 hc0
     replace S1 := S1.put (by decide : 29 < 184) (undef)
     intro v_100 hF_99; obtain rfl : .bool (!(decide (s_32.xs = [78, 67, 77, 72]))) = v_100 := Eq.symm hF_99
     replace S1 := S1.put (by decide : 27 < 184) (.bool (!(decide (s_32.xs = [78, 67, 77, 72]))))
     refine fill_nil S1 ?_; clear S1; intro a_ S1
     rw [show (!(decide (s_32.xs = [78, 67, 77, 72]))) = true from hl0] at S1
     exact RPost.one (v := undef) S1 tys tys_ok rfl (by kernel_rfl) S.defers ⟨fun k_ => absurd k_ hc0, fun _ => rfl⟩ (Below.refl _ _)
   refine RunAll.cons (eqv (.bool q_33)) [(eqv (.bool (!(decide (s_32.xs = [78, 67, 77, 72])))), 27), (cndF (!(decide (s_32.xs = [78, 67, 77, 72]))) false (eqv (.bool (t_35 != 12))), 30)] rfl rfl ?_ ?_
   ·intro W_ hW
    by_cases hc0 : (!(decide (s_32.xs = [78, 67, 77, 72]))) = false
    ·have hl0 : (!(decide (s_32.xs = [78, 67, 77, 72]))) = false := hc0
     have S1 := S
     intro v_102 hF_101; obtain rfl : .bool (!(decide (s_32.xs = [78, 67, 77, 72]))) = v_102 := Eq.symm hF_101
     replace S1 := S1.put (by decide : 27 < 184) (.bool (!(decide (s_32.xs = [78, 67, 77, 72]))))
     intro v_103 hF_104
     replace hF_104 := cndF.pos hF_104 hc0
     revert hF_104
     revert v_103
     intro v_106 hF_105; obtain rfl : .bool (t_35 != 12) = v_106 := Eq.symm hF_105
     replace S1 := S1.put (by decide : 30 < 184) (.bool (t_35 != 12))
     refine fill_nil S1 ?_; clear S1; intro a_ S1
     rw [show (!(decide (s_32.xs = [78, 67, 77, 72]))) = false from hl0] at S1
     exact RPost.one (v := .bool (t_35 != 12)) S1 tys tys_ok rfl (by kernel_rfl) S.defers (congrArg Value.bool ((HG_34).1 hc0).2) (Below.refl _ _)
    ·have hl0 : (!(decide (s_32.xs = [78, 67, 77, 72]))) = true := (by simpa using hc0)
     have S1 := S
     intro v_108 hF_107; obtain rfl : .bool (!(decide (s_32.xs = [78, 67, 77, 72]))) = v_108 := Eq.symm hF_107
     replace S1 := S1.put (by decide : 27 < 184) (.bool (!(decide (s_32.xs = [78, 67, 77, 72]))))
     intro v_109 hF_110
     obtain rfl := cndF.neg hF_110 hc0
     replace S1 := S1.put (by decide : 30 < 184) (undef)
     refine fill_nil S1 ?_; clear S1; intro a_ S1
     rw [show (!(decide (s_32.xs = [78, 67, 77, 72]))) = true from hl0] at S1
     exact RPost.one (v := .bool true) S1 tys tys_ok rfl (by kernel_rfl) S.defers (congrArg Value.bool ((HG_34).2 hc0)) (Below.refl _ _)
   refine RunAll.cons (eqv (.bool q_33)) [(eqv (.bool q_33), 31)] rfl rfl ?_ ?_
   ·intro W_ hW
    have S1 := S
    intro v_112 hF_111; obtain rfl : .bool q_33 = v_112 := Eq.symm hF_111
    replace S1 := S1.put (by decide : 31 < 184) (.bool q_33)
    exact RPost.one (v := .bool q_33) S1 tys tys_ok rfl (by kernel_rfl) S.defers rfl (Below.refl _ _)
   refine RunAll.cons (cndF q_33 false (eqv (.func (.func 25) #[] #[pB b_1]))) [(eqv (.bool q_33), 32)] rfl rfl ?_ ?_
   ·intro W_ hW
    by_cases hc1 : q_33 = false
    ·have hl1 : q_33 = false := hc1
     have S1 := S
     intro v_114 hF_113; obtain rfl : .bool q_33 = v_114 := Eq.symm hF_113
     replace S1 := S1.put (by decide : 32 < 184) (.bool q_33)
     refine fill_nil S1 ?_; clear S1; intro a_ S1
     replace B_2 := B_2.step hW
     rw [show q_33 = false from hl1] at S1
     exact RPost.one (v := .func (.func 25) #[] #[pB b_1]) S1 tys tys_ok rfl (by kernel_rfl) S.defers ⟨fun _ => rfl, fun k_ => absurd hc1 k_⟩ (Below.refl _ _)
    ·have hl1 : q_33 = true := (by simpa using hc1)
     have S1 := S
     intro v_116 hF_115; obtain rfl : .bool q_33 = v_116 := Eq.symm hF_115
     replace S1 := S1.put (by decide : 32 < 184) (.bool q_33)
     refine fill_nil S1 ?_; clear S1; intro a_ S1
     rw [show q_33 = true from hl1] at S1
     exact RPost.one (v := undef) S1 tys tys_ok rfl (by kernel_rfl) S.defers ⟨fun k_ => absurd k_ hc1, fun _ => rfl⟩ (Below.refl _ _)
   refine RunAll.cons (cndF q_33 false (isI .i64 t_42)) [(cndF q_33 false (eqv (.func (.func 25) #[] #[pB b_1])), 33), (eqv (.bool q_33), 32)] rfl rfl ?_ ?_
   ·intro W_ hW
    by_cases hc1 : q_33 = false
    ·have hl1 : q_33 = false := hc1
     have S1 := S
     intro v_117 hF_118
     replace hF_118 := cndF.pos hF_118 hc1
     revert hF_118
     revert v_117
     intro v_120 hF_119; obtain rfl : .func (.func 25) #[] #[pB b_1] = v_120 := Eq.symm hF_119
     replace S1 := S1.put (by decide : 33 < 184) (.func (.func 25) #[] #[pB b_1])
     intro v_122 hF_121; obtain rfl : .bool q_33 = v_122 := Eq.symm hF_121
     replace S1 := S1.put (by decide : 32 < 184) (.bool q_33)
     refine fill_nil S1 ?_; clear S1; intro a_ S1
     replace B_2 := B_2.step hW
     replace W := W.step hW
     rw [show q_33 = false from hl1] at S1
     have S0 := S.defers; replace S := S1; clear S1
     obtain ⟨et_42, _⟩ := (HG_41).1 hc1
     refine w_go S rfl (op_calld (vs := [.int .i64 8]) S rfl rfl cb25 rfl rfl rfl (c25 (Kx K w.heap.size [some b_5, some b_1]) n W_ 8 (by decide) _ x0 (Bx.br B_2) et_42) ?_)
     rintro _ w_126 ⟨v_123, rfl, R_124, hb_125⟩; refine ⟨_, rfl, ?_⟩
     replace R_124 := RepV.back R_124 W
     clear S; intro a S
     obtain ⟨rfl, GR_124⟩ := RepV.int R_124
     refine wpList_nil ?_
     exact RPost.mk_ S rfl S0 ⟨fun _ => ⟨rfl, GR_124⟩, fun k_ => absurd hc1 k_⟩ (hb_125)
    ·have hl1 : q_33 = true := (by simpa using hc1)
     have S1 := S
     intro v_127 hF_128
     obtain rfl := cndF.neg hF_128 hc1
     replace S1 := S1.put (by decide : 33 < 184) (undef)
     intro v_130 hF_129; obtain rfl : .bool q_33 = v_130 := Eq.symm hF_129
     replace S1 := S1.put (by decide : 32 < 184) (.bool q_33)
     refine fill_nil S1 ?_; clear S1; intro a_ S1
     rw [show q_33 = true from hl1] at S1
     exact RPost.one (v := undef) S1 tys tys_ok rfl (by kernel_rfl) S.defers ⟨fun k_ => absurd k_ hc1, fun _ => rfl⟩ (Below.refl _ _)
   refine RunAll.cons (cndF q_33 false (isRep (.sl (.int .u8)) (Kx K w.heap.size [some b_5, some b_1]) x0)) [(eqv (.bool q_33), 32)] rfl rfl ?_ ?_
   ·intro W_ hW
    by_cases hc1 : q_33 = false
    ·have hl1 : q_33 = false := hc1
     have S1 := S
     intro v_132 hF_131; obtain rfl : .bool q_33 = v_132 := Eq.symm hF_131
     replace S1 := S1.put (by decide : 32 < 184) (.bool q_33)
     refine fill_nil S1 ?_; clear S1; intro a_ S1
     replace B_2 := B_2.step hW
     rw [show q_33 = false from hl1] at S1
     have S0 := S.defers; replace S := S1; clear S1
     obtain ⟨et_42, _⟩ := (HG_41).1 hc1
     refine w_go S rfl (op_load (t := (.sl (.int .u8))) (x := x0) S rfl ty28 rfl rfl rfl B_2.at_ ?_)
     clear S; intro a v_133 R_134 S
     refine wpList_nil ?_
     exact RPost.mk_ S rfl S0 ⟨fun _ => R_134, fun k_ => absurd hc1 k_⟩ (Below.refl _ _)
    ·have hl1 : q_33 = true := (by simpa using hc1)
     have S1 := S
     intro v_136 hF_135; obtain rfl : .bool q_33 = v_136 := Eq.symm hF_135
     replace S1 := S1.put (by decide : 32 < 184) (.bool q_33)
     refine fill_nil S1 ?_; clear S1; intro a_ S1
     rw [show q_33 = true from hl1] at S1
     exact RPost.one (v := undef) S1 tys tys_ok rfl (by kernel_rfl) S.defers ⟨fun k_ => absurd k_ hc1, fun _ => rfl⟩ (Below.refl _ _)
   refine RunAll.cons (cndF q_33 false (isI .i64 (lenI x0))) [(cndF q_33 false (isRep (.sl (.int .u8)) (Kx K w.heap.size [some b_5, some b_1]) x0), 35), (eqv (.bool q_33), 32)] rfl rfl ?_ ?_
   ·intro W_ hW
    by_cases hc1 : q_33 = false
    ·have hl1 : q_33 = false := hc1
     have S1 := S
     intro v_137 hF_138
     replace hF_138 := cndF.pos hF_138 hc1
     revert hF_138
     revert v_137
     intro v_140 hF_139; replace hF_139 : RepV _ _ _ _ _ := hF_139
     replace S1 := S1.put (by decide : 35 < 184) (v_140)
     intro v_142 hF_141; obtain rfl : .bool q_33 = v_142 := Eq.symm hF_141
     replace S1 := S1.put (by decide : 32 < 184) (.bool q_33)
     refine fill_nil S1 ?_; clear S1; intro a_ S1
     replace W := W.step hW
     rw [show q_33 = false from hl1] at S1
     have S0 := S.defers; replace S := S1; clear S1
     obtain ⟨et_42, _⟩ := (HG_41).1 hc1
     refine w_go S rfl (op_len (K := _) S rfl ty28 rfl rfl rfl hF_139 ?_)
     clear S; intro a G_143 S
     refine wpList_nil ?_
     exact RPost.mk_ S rfl S0 ⟨fun _ => ⟨rfl, G_143⟩, fun k_ => absurd hc1 k_⟩ (Below.refl _ _)
    ·have hl1 : q_33 = true := (by simpa using hc1)
     have S1 := S
     intro v_144 hF_145
     obtain rfl := cndF.neg hF_145 hc1
     replace S1 := S1.put (by decide : 35 < 184) (undef)
     intro v_147 hF_146; obtain rfl : .bool q_33 = v_147 := Eq.symm hF_146
     replace S1 := S1.put (by decide : 32 < 184) (.bool q_33)
     refine fill_nil S1 ?_; clear S1; intro a_ S1
     rw [show q_33 = true from hl1] at S1
     exact RPost.one (v := undef) S1 tys tys_ok rfl (by kernel_rfl) S.defers ⟨fun k_ => absurd k_ hc1, fun _ => rfl⟩ (Below.refl _ _)
   refine RunAll.cons (cndF q_33 false (eqv (.bool (t_42 != (lenI x0))))) [(cndF q_33 false (isI .i64 t_42), 34), (cndF q_33 false (isI .i64 (lenI x0)), 36), (eqv (.bool q_33), 32)] rfl rfl ?_ ?_
   ·intro W_ hW
    by_cases hc1 : q_33 = false
    ·have hl1 : q_33 = false := hc1
     have S1 := S
     intro v_148 hF_149
     replace hF_149 := cndF.pos hF_149 hc1
     revert hF_149
     revert v_148
     rintro _ ⟨rfl, hF_150⟩
     replace S1 := S1.put (by decide : 34 < 184) (.int .i64 t_42)
     intro v_152 hF_153
     replace hF_153 := cndF.pos hF_153 hc1
     revert hF_153
     revert v_152
     rintro _ ⟨rfl, hF_154⟩
     replace S1 := S1.put (by decide : 36 < 184) (.int .i64 (lenI x0))
     intro v_157 hF_156; obtain rfl : .bool q_33 = v_157 := Eq.symm hF_156
     replace S1 := S1.put (by decide : 32 < 184) (.bool q_33)
     refine fill_nil S1 ?_; clear S1; intro a_ S1
     rw [show q_33 = false from hl1] at S1
     exact RPost.one (v := .bool (t_42 != (lenI x0))) S1 tys tys_ok rfl (by kernel_rfl) S.defers ⟨fun _ => rfl, fun k_ => absurd hc1 k_⟩ (Below.refl _ _)
    ·have hl1 : q_33 = true := (by simpa using hc1)
     have S1 := S
     intro v_158 hF_159
     obtain rfl := cndF.neg hF_159 hc1
     replace S1 := S1.put (by decide : 34 < 184) (undef)
     intro v_160 hF_161
     obtain rfl := cndF.neg hF_161 hc1
     replace S1 := S1.put (by decide : 36 < 184) (undef)
     intro v_163 hF_162; obtain rfl : .bool q_33 = v_163 := Eq.symm hF_162
     replace S1 := S1.put (by decide : 32 < 184) (.bool q_33)
     refine fill_nil S1 ?_; clear S1; intro a_ S1
     rw [show q_33 = true from hl1] at S1
     exact RPost.one (v := undef) S1 tys tys_ok rfl (by kernel_rfl) S.defers ⟨fun k_ => absurd k_ hc1, fun _ => rfl⟩ (Below.refl _ _)
   refine RunAll.cons (eqv (.bool q_40)) [(eqv (.bool q_33), 32), (cndF q_33 false (eqv (.bool (t_42 != (lenI x0)))), 37)] rfl rfl ?_ ?_
   ·intro W_ hW
    by_cases hc1 : q_33 = false
    ·have hl1 : q_33 = false := hc1
     have S1 := S
     intro v_165 hF_164; obtain rfl : .bool q_33 = v_165 := Eq.symm hF_164
     replace S1 := S1.put (by decide : 32 < 184) (.bool q_33)
     intro v_166 hF_167
     replace hF_167 := cndF.pos hF_167 hc1
     revert hF_167
     revert v_166
     intro v_169 hF_168; obtain rfl : .bool (t_42 != (lenI x0)) = v_169 := Eq.symm hF_168
     replace S1 := S1.put (by decide : 37 < 184) (.bool (t_42 != (lenI x0)))
     refine fill_nil S1 ?_; clear S1; intro a_ S1
     rw [show q_33 = false from hl1] at S1
     exact RPost.one (v := .bool (t_42 != (lenI x0))) S1 tys tys_ok rfl (by kernel_rfl) S.defers (congrArg Value.bool ((HG_41).1 hc1).2) (Below.refl _ _)
    ·have hl1 : q_33 = true := (by simpa using hc1)
     have S1 := S
     intro v_171 hF_170; obtain rfl : .bool q_33 = v_171 := Eq.symm hF_170
     replace S1 := S1.put (by decide : 32 < 184) (.bool q_33)
     intro v_172 hF_173
     obtain rfl := cndF.neg hF_173 hc1
     replace S1 := S1.put (by decide : 37 < 184) (undef)
     refine fill_nil S1 ?_; clear S1; intro a_ S1
     rw [show q_33 = true from hl1] at S1
     exact RPost.one (v := .bool true) S1 tys tys_ok rfl (by kernel_rfl) S.defers (congrArg Value.bool ((HG_41).2 hc1)) (Below.refl _ _)
   refine RunAll.cons (eqv (.bool q_40)) [(eqv (.bool q_40), 38)] rfl rfl ?_ ?_
   ·intro W_ hW
    have S1 := S
    intro v_175 hF_174; obtain rfl : .bool q_40 = v_175 := Eq.symm hF_174
    replace S1 := S1.put (by decide : 38 < 184) (.bool q_40)
    exact RPost.one (v := .bool q_40) S1 tys tys_ok rfl (by kernel_rfl) S.defers rfl (Below.refl _ _)
   refine RunAll.cons (cndF q_40 false (isI .i64 t_23)) [(eqv (.bool q_40), 39)] rfl rfl ?_ ?_
   ·intro W_ hW
    by_cases hc2 : q_40 = false
    ·have hl2 : q_40 = false := hc2
     have S1 := S
     intro v_177 hF_176; obtain rfl : .bool q_40 = v_177 := Eq.symm hF_176
     replace S1 := S1.put (by decide : 39 < 184) (.bool q_40)
     refine fill_nil S1 ?_; clear S1; intro a_ S1
     rw [show q_40 = false from hl2] at S1
     exact RPost.one (v := .int .i64 t_23) S1 tys tys_ok rfl (by kernel_rfl) S.defers ⟨fun _ => ⟨rfl, GR_25⟩, fun k_ => absurd hc2 k_⟩ (Below.refl _ _)
    ·have hl2 : q_40 = true := (by simpa using hc2)
     have S1 := S
     intro v_179 hF_178; obtain rfl : .bool q_40 = v_179 := Eq.symm hF_178
     replace S1 := S1.put (by decide : 39 < 184) (.bool q_40)
     refine fill_nil S1 ?_; clear S1; intro a_ S1
     rw [show q_40 = true from hl2] at S1
     exact RPost.one (v := undef) S1 tys tys_ok rfl (by kernel_rfl) S.defers ⟨fun k_ => absurd k_ hc2, fun _ => rfl⟩ (Below.refl _ _)
   refine RunAll.cons (cndF q_40 false (eqv (.bool (decide (t_23 < 12))))) [(cndF q_40 false (isI .i64 t_23), 40), (eqv (.bool q_40), 39)] rfl rfl ?_ ?_
   ·intro W_ hW
    by_cases hc2 : q_40 = false
    ·have hl2 : q_40 = false := hc2
     have S1 := S
     intro v_180 hF_181
     replace hF_181 := cndF.pos hF_181 hc2
     revert hF_181
     revert v_180
     rintro _ ⟨rfl, hF_182⟩
     replace S1 := S1.put (by decide : 40 < 184) (.int .i64 t_23)
     intro v_185 hF_184; obtain rfl : .bool q_40 = v_185 := Eq.symm hF_184
     replace S1 := S1.put (by decide : 39 < 184) (.bool q_40)
     refine fill_nil S1 ?_; clear S1; intro a_ S1
     rw [show q_40 = false from hl2] at S1
     exact RPost.one (v := .bool (decide (t_23 < 12))) S1 tys tys_ok rfl (by kernel_rfl) S.defers ⟨fun _ => rfl, fun k_ => absurd hc2 k_⟩ (Below.refl _ _)
    ·have hl2 : q_40 = true := (by simpa using hc2)
     have S1 := S
     intro v_186 hF_187
     obtain rfl := cndF.neg hF_187 hc2
     replace S1 := S1.put (by decide : 40 < 184) (undef)
     intro v_189 hF_188; obtain rfl : .bool q_40 = v_189 := Eq.symm hF_188
     replace S1 := S1.put (by decide : 39 < 184) (.bool q_40)
     refine fill_nil S1 ?_; clear S1; intro a_ S1
     rw [show q_40 = true from hl2] at S1
     exact RPost.one (v := undef) S1 tys tys_ok rfl (by kernel_rfl) S.defers ⟨fun k_ => absurd k_ hc2, fun _ => rfl⟩ (Below.refl _ _)
   refine RunAll.cons (eqv (.bool q_50)) [(eqv (.bool q_40), 39), (cndF q_40 false (eqv (.bool (decide (t_23 < 12)))), 41)] rfl rfl ?_ ?_
   ·intro W_ hW
    by_cases hc2 : q_40 = false
    ·have hl2 : q_40 = false := hc2
     have S1 := S
     intro v_191 hF_190; obtain rfl : .bool q_40 = v_191 := Eq.symm hF_190
     replace S1 := S1.put (by decide : 39 < 184) (.bool q_40)
     intro v_192 hF_193
     replace hF_193 := cndF.pos hF_193 hc2
     revert hF_193
     revert v_192
     intro v_195 hF_194; obtain rfl : .bool (decide (t_23 < 12)) = v_195 := Eq.symm hF_194
     replace S1 := S1.put (by decide : 41 < 184) (.bool (decide (t_23 < 12)))
     refine fill_nil S1 ?_; clear S1; intro a_ S1
     rw [show q_40 = false from hl2] at S1
     exact RPost.one (v := .bool (decide (t_23 < 12))) S1 tys tys_ok rfl (by kernel_rfl) S.defers (congrArg Value.bool ((HG_51).1 hc2)) (Below.refl _ _)
    ·have hl2 : q_40 = true := (by simpa using hc2)
     have S1 := S
     intro v_197 hF_196; obtain rfl : .bool q_40 = v_197 := Eq.symm hF_196
     replace S1 := S1.put (by decide : 39 < 184) (.bool q_40)
     intro v_198 hF_199
     obtain rfl := cndF.neg hF_199 hc2
     replace S1 := S1.put (by decide : 41 < 184) (undef)
     refine fill_nil S1 ?_; clear S1; intro a_ S1
     rw [show q_40 = true from hl2] at S1
     exact RPost.one (v := .bool true) S1 tys tys_ok rfl (by kernel_rfl) S.defers (congrArg Value.bool ((HG_51).2 hc2)) (Below.refl _ _)
   refine RunAll.cons (eqv (.bool q_50)) [(eqv (.bool q_50), 42)] rfl rfl ?_ ?_
   ·intro W_ hW
    have S1 := S
    intro v_201 hF_200; obtain rfl : .bool q_50 = v_201 := Eq.symm hF_200
    replace S1 := S1.put (by decide : 42 < 184) (.bool q_50)
    exact RPost.one (v := .bool q_50) S1 tys tys_ok rfl (by kernel_rfl) S.defers rfl (Below.refl _ _)
   refine RunAll.cons (cndF q_50 false (isI .i64 t_23)) [(eqv (.bool q_50), 43)] rfl rfl ?_ ?_
   ·intro W_ hW
    by_cases hc3 : q_50 = false
    ·have hl3 : q_50 = false := hc3
     have S1 := S
     intro v_203 hF_202; obtain rfl : .bool q_50 = v_203 := Eq.symm hF_202
     replace S1 := S1.put (by decide : 43 < 184) (.bool q_50)
     refine fill_nil S1 ?_; clear S1; intro a_ S1
     rw [show q_50 = false from hl3] at S1
     exact RPost.one (v := .int .i64 t_23) S1 tys tys_ok rfl (by kernel_rfl) S.defers ⟨fun _ => ⟨rfl, GR_25⟩, fun k_ => absurd hc3 k_⟩ (Below.refl _ _)
    ·have hl3 : q_50 = true := (by simpa using hc3)
     have S1 := S
     intro v_205 hF_204; obtain rfl : .bool q_50 = v_205 := Eq.symm hF_204
     replace S1 := S1.put (by decide : 43 < 184) (.bool q_50)
     refine fill_nil S1 ?_; clear S1; intro a_ S1
     rw [show q_50 = true from hl3] at S1
     exact RPost.one (v := undef) S1 tys tys_ok rfl (by kernel_rfl) S.defers ⟨fun k_ => absurd k_ hc3, fun _ => rfl⟩ (Below.refl _ _)
   refine RunAll.cons (cndF q_50 false (isI .i64 x_54)) [(cndF q_50 false (isI .i64 t_23), 44), (eqv (.bool q_50), 43)] rfl rfl ?_ ?_
   ·intro W_ hW
    by_cases hc3 : q_50 = false
    ·have hl3 : q_50 = false := hc3
     have S1 := S
     intro v_206 hF_207
     replace hF_207 := cndF.pos hF_207 hc3
     revert hF_207
     revert v_206
     rintro _ ⟨rfl, hF_208⟩
     replace S1 := S1.put (by decide : 44 < 184) (.int .i64 t_23)
     intro v_211 hF_210; obtain rfl : .bool q_50 = v_211 := Eq.symm hF_210
     replace S1 := S1.put (by decide : 43 < 184) (.bool q_50)
     refine fill_nil S1 ?_; clear S1; intro a_ S1
     rw [show q_50 = false from hl3] at S1
     have S0 := S.defers; replace S := S1; clear S1
     obtain ⟨ex_54, _⟩ := (HG_53).1 hc3
     refine w_go S rfl (op_rem S .i64 rfl rfl rfl rfl rfl ex_54 ?_)
     clear S; intro a S
     refine wpList_nil ?_
     exact RPost.mk_ S rfl S0 ⟨fun _ => ⟨rfl, (inR_rem ex_54)⟩, fun k_ => absurd hc3 k_⟩ (Below.refl _ _)
    ·have hl3 : q_50 = true := (by simpa using hc3)
     have S1 := S
     intro v_212 hF_213
     obtain rfl := cndF.neg hF_213 hc3
     replace S1 := S1.put (by decide : 44 < 184) (undef)
     intro v_215 hF_214; obtain rfl : .bool q_50 = v_215 := Eq.symm hF_214
     replace S1 := S1.put (by decide : 43 < 184) (.bool q_50)
     refine fill_nil S1 ?_; clear S1; intro a_ S1
     rw [show q_50 = true from hl3] at S1
     exact RPost.one (v := undef) S1 tys tys_ok rfl (by kernel_rfl) S.defers ⟨fun k_ => absurd k_ hc3, fun _ => rfl⟩ (Below.refl _ _)
   refine RunAll.cons (cndF q_50 false (eqv (.bool (x_54 != 0)))) [(cndF q_50 false (isI .i64 x_54), 45), (eqv (.bool q_50), 43)] rfl rfl ?_ ?_
   ·intro W_ hW
    by_cases hc3 : q_50 = false
    ·have hl3 : q_50 = false := hc3
     have S1 := S
     intro v_216 hF_217
     replace hF_217 := cndF.pos hF_217 hc3
     revert hF_217
     revert v_216
     rintro _ ⟨rfl, hF_218⟩
     replace S1 := S1.put (by decide : 45 < 184) (.int .i64 x_54)
     intro v_221 hF_220; obtain rfl : .bool q_50 = v_221 := Eq.symm hF_220
     replace S1 := S1.put (by decide : 43 < 184) (.bool q_50)
     refine fill_nil S1 ?_; clear S1; intro a_ S1
     rw [show q_50 = false from hl3] at S1
     exact RPost.one (v := .bool (x_54 != 0)) S1 tys tys_ok rfl (by kernel_rfl) S.defers ⟨fun _ => rfl, fun k_ => absurd hc3 k_⟩ (Below.refl _ _)
    ·have hl3 : q_50 = true := (by simpa using hc3)
     have S1 := S
     intro v_222 hF_223
     obtain rfl := cndF.neg hF_223 hc3
     replace S1 := S1.put (by decide : 45 < 184) (undef)
     intro v_225 hF_224; obtain rfl : .bool q_50 = v_225 := Eq.symm hF_224
     replace S1 := S1.put (by decide : 43 < 184) (.bool q_50)
     refine fill_nil S1 ?_; clear S1; intro a_ S1
     rw [show q_50 = true from hl3] at S1
     exact RPost.one (v := undef) S1 tys tys_ok rfl (by kernel_rfl) S.defers ⟨fun k_ => absurd k_ hc3, fun _ => rfl⟩ (Below.refl _ _)
   refine RunAll.cons (eqv (.bool q_52)) [(eqv (.bool q_50), 43), (cndF q_50 false (eqv (.bool (x_54 != 0))), 46)] rfl rfl ?_ ?_
   ·intro W_ hW
    by_cases hc3 : q_50 = false
    ·have hl3 : q_50 = false := hc3
     have S1 := S
     intro v_227 hF_226; obtain rfl : .bool q_50 = v_227 := Eq.symm hF_226
     replace S1 := S1.put (by decide : 43 < 184) (.bool q_50)
     intro v_228 hF_229
     replace hF_229 := cndF.pos hF_229 hc3
     revert hF_229
     revert v_228
     intro v_231 hF_230; obtain rfl : .bool (x_54 != 0) = v_231 := Eq.symm hF_230
     replace S1 := S1.put (by decide : 46 < 184) (.bool (x_54 != 0))
     refine fill_nil S1 ?_; clear S1; intro a_ S1
     rw [show q_50 = false from hl3] at S1
     exact RPost.one (v := .bool (x_54 != 0)) S1 tys tys_ok rfl (by kernel_rfl) S.defers (congrArg Value.bool ((HG_53).1 hc3).2) (Below.refl _ _)
    ·have hl3 : q_50 = true := (by simpa using hc3)
     have S1 := S
     intro v_233 hF_232; obtain rfl : .bool q_50 = v_233 := Eq.symm hF_232
     replace S1 := S1.put (by decide : 43 < 184) (.bool q_50)
     intro v_234 hF_235
     obtain rfl := cndF.neg hF_235 hc3
     replace S1 := S1.put (by decide : 46 < 184) (undef)
     refine fill_nil S1 ?_; clear S1; intro a_ S1
     rw [show q_50 = true from hl3] at S1
     exact RPost.one (v := .bool true) S1 tys tys_ok rfl (by kernel_rfl) S.defers (congrArg Value.bool ((HG_53).2 hc3)) (Below.refl _ _)
   refine RunAll.cons (eqv (.bool q_52)) [(eqv (.bool q_52), 47)] rfl rfl ?_ ?_
   ·intro W_ hW
    have S1 := S
    intro v_237 hF_236; obtain rfl : .bool q_52 = v_237 := Eq.symm hF_236
    replace S1 := S1.put (by decide : 47 < 184) (.bool q_52)
    exact RPost.one (v := .bool q_52) S1 tys tys_ok rfl (by kernel_rfl) S.defers rfl (Below.refl _ _)
   refine RunAll.cons (cndF q_52 false (isI .i64 t_23)) [(eqv (.bool q_52), 48)] rfl rfl ?_ ?_
   ·intro W_ hW
    by_cases hc4 : q_52 = false
    ·have hl4 : q_52 = false := hc4
     have S1 := S
     intro v_239 hF_238; obtain rfl : .bool q_52 = v_239 := Eq.symm hF_238
     replace S1 := S1.put (by decide : 48 < 184) (.bool q_52)
     refine fill_nil S1 ?_; clear S1; intro a_ S1
     rw [show q_52 = false from hl4] at S1
     exact RPost.one (v := .int .i64 t_23) S1 tys tys_ok rfl (by kernel_rfl) S.defers ⟨fun _ => ⟨rfl, GR_25⟩, fun k_ => absurd hc4 k_⟩ (Below.refl _ _)
    ·have hl4 : q_52 = true := (by simpa using hc4)
     have S1 := S
     intro v_241 hF_240; obtain rfl : .bool q_52 = v_241 := Eq.symm hF_240
     replace S1 := S1.put (by decide : 48 < 184) (.bool q_52)
     refine fill_nil S1 ?_; clear S1; intro a_ S1
     rw [show q_52 = true from hl4] at S1
     exact RPost.one (v := undef) S1 tys tys_ok rfl (by kernel_rfl) S.defers ⟨fun k_ => absurd k_ hc4, fun _ => rfl⟩ (Below.refl _ _)
   refine RunAll.cons (cndF q_52 false (isI .i64 x_57)) [(cndF q_52 false (isI .i64 t_23), 49), (eqv (.bool q_52), 48)] rfl rfl ?_ ?_
   ·intro W_ hW
    by_cases hc4 : q_52 = false
    ·have hl4 : q_52 = false := hc4
     have S1 := S
     intro v_242 hF_243
     replace hF_243 := cndF.pos hF_243 hc4
     revert hF_243
     revert v_242
     rintro _ ⟨rfl, hF_244⟩
     replace S1 := S1.put (by decide : 49 < 184) (.int .i64 t_23)
     intro v_247 hF_246; obtain rfl : .bool q_52 = v_247 := Eq.symm hF_246
     replace S1 := S1.put (by decide : 48 < 184) (.bool q_52)
     refine fill_nil S1 ?_; clear S1; intro a_ S1
     rw [show q_52 = false from hl4] at S1
     have S0 := S.defers; replace S := S1; clear S1
     obtain ⟨ex_57, _⟩ := (HG_56).1 hc4
     refine w_go S rfl (op_arith S .i64 (t_23 + 12) rfl (.inl rfl) rfl rfl rfl rfl ex_57 ?_)
     clear S; intro a S
     refine wpList_nil ?_
     exact RPost.mk_ S rfl S0 ⟨fun _ => ⟨rfl, (ckI_some ex_57).2.1⟩, fun k_ => absurd hc4 k_⟩ (Below.refl _ _)
    ·have hl4 : q_52 = true := (by simpa using hc4)
     have S1 := S
     intro v_248 hF_249
     obtain rfl := cndF.neg hF_249 hc4
     replace S1 := S1.put (by decide : 49 < 184) (undef)
     intro v_251 hF_250; obtain rfl : .bool q_52 = v_251 := Eq.symm hF_250
     replace S1 := S1.put (by decide : 48 < 184) (.bool q_52)
     refine fill_nil S1 ?_; clear S1; intro a_ S1
     rw [show q_52 = true from hl4] at S1
     exact RPost.one (v := undef) S1 tys tys_ok rfl (by kernel_rfl) S.defers ⟨fun k_ => absurd k_ hc4, fun _ => rfl⟩ (Below.refl _ _)
   refine RunAll.cons (cndF q_52 false (isRep (.sl (.int .u8)) (Kx K w.heap.size [some b_5, some b_1]) x0)) [(eqv (.bool q_52), 48)] rfl rfl ?_ ?_
   ·intro W_ hW
    by_cases hc4 : q_52 = false
    ·have hl4 : q_52 = false := hc4
     have S1 := S
     intro v_253 hF_252; obtain rfl : .bool q_52 = v_253 := Eq.symm hF_252
     replace S1 := S1.put (by decide : 48 < 184) (.bool q_52)
     refine fill_nil S1 ?_; clear S1; intro a_ S1
     replace B_2 := B_2.step hW
     rw [show q_52 = false from hl4] at S1
     have S0 := S.defers; replace S := S1; clear S1
     obtain ⟨ex_57, _⟩ := (HG_56).1 hc4
     refine w_go S rfl (op_load (t := (.sl (.int .u8))) (x := x0) S rfl ty28 rfl rfl rfl B_2.at_ ?_)
     clear S; intro a v_254 R_255 S
     refine wpList_nil ?_
     exact RPost.mk_ S rfl S0 ⟨fun _ => R_255, fun k_ => absurd hc4 k_⟩ (Below.refl _ _)
    ·have hl4 : q_52 = true := (by simpa using hc4)
     have S1 := S
     intro v_257 hF_256; obtain rfl : .bool q_52 = v_257 := Eq.symm hF_256
     replace S1 := S1.put (by decide : 48 < 184) (.bool q_52)
     refine fill_nil S1 ?_; clear S1; intro a_ S1
     rw [show q_52 = true from hl4] at S1
     exact RPost.one (v := undef) S1 tys tys_ok rfl (by kernel_rfl) S.defers ⟨fun k_ => absurd k_ hc4, fun _ => rfl⟩ (Below.refl _ _)
   refine RunAll.cons (cndF q_52 false (isI .i64 (lenI x0))) [(cndF q_52 false (isRep (.sl (.int .u8)) (Kx K w.heap.size [some b_5, some b_1]) x0), 51), (eqv (.bool q_52), 48)] rfl rfl ?_ ?_
   ·intro W_ hW
    by_cases hc4 : q_52 = false
    ·have hl4 : q_52 = false := hc4
     have S1 := S
     intro v_258 hF_259
     replace hF_259 := cndF.pos hF_259 hc4
     revert hF_259
     revert v_258
     intro v_261 hF_260; replace hF_260 : RepV _ _ _ _ _ := hF_260
     replace S1 := S1.put (by decide : 51 < 184) (v_261)
     intro v_263 hF_262; obtain rfl : .bool q_52 = v_263 := Eq.symm hF_262
     replace S1 := S1.put (by decide : 48 < 184) (.bool q_52)
     refine fill_nil S1 ?_; clear S1; intro a_ S1
     replace W := W.step hW
     rw [show q_52 = false from hl4] at S1
     have S0 := S.defers; replace S := S1; clear S1
     obtain ⟨ex_57, _⟩ := (HG_56).1 hc4
     refine w_go S rfl (op_len (K := _) S rfl ty28 rfl rfl rfl hF_260 ?_)
     clear S; intro a G_264 S
     refine wpList_nil ?_
     exact RPost.mk_ S rfl S0 ⟨fun _ => ⟨rfl, G_264⟩, fun k_ => absurd hc4 k_⟩ (Below.refl _ _)
    ·have hl4 : q_52 = true := (by simpa using hc4)
     have S1 := S
     intro v_265 hF_266
     obtain rfl := cndF.neg hF_266 hc4
     replace S1 := S1.put (by decide : 51 < 184) (undef)
     intro v_268 hF_267; obtain rfl : .bool q_52 = v_268 := Eq.symm hF_267
     replace S1 := S1.put (by decide : 48 < 184) (.bool q_52)
     refine fill_nil S1 ?_; clear S1; intro a_ S1
     rw [show q_52 = true from hl4] at S1
     exact RPost.one (v := undef) S1 tys tys_ok rfl (by kernel_rfl) S.defers ⟨fun k_ => absurd k_ hc4, fun _ => rfl⟩ (Below.refl _ _)
   refine RunAll.cons (cndF q_52 false (eqv (.bool (decide (x_57 > (lenI x0)))))) [(cndF q_52 false (isI .i64 x_57), 50), (cndF q_52 false (isI .i64 (lenI x0)), 52), (eqv (.bool q_52), 48)] rfl rfl ?_ ?_
   ·intro W_ hW
    by_cases hc4 : q_52 = false
    ·have hl4 : q_52 = false := hc4
     have S1 := S
     intro v_269 hF_270
     replace hF_270 := cndF.pos hF_270 hc4
     revert hF_270
     revert v_269
     rintro _ ⟨rfl, hF_271⟩
     replace S1 := S1.put (by decide : 50 < 184) (.int .i64 x_57)
     intro v_273 hF_274
     replace hF_274 := cndF.pos hF_274 hc4
     revert hF_274
     revert v_273
     rintro _ ⟨rfl, hF_275⟩
     replace S1 := S1.put (by decide : 52 < 184) (.int .i64 (lenI x0))
     intro v_278 hF_277; obtain rfl : .bool q_52 = v_278 := Eq.symm hF_277
     replace S1 := S1.put (by decide : 48 < 184) (.bool q_52)
     refine fill_nil S1 ?_; clear S1; intro a_ S1
     rw [show q_52 = false from hl4] at S1
     exact RPost.one (v := .bool (decide (x_57 > (lenI x0)))) S1 tys tys_ok rfl (by kernel_rfl) S.defers ⟨fun _ => rfl, fun k_ => absurd hc4 k_⟩ (Below.refl _ _)
    ·have hl4 : q_52 = true := (by simpa using hc4)
     have S1 := S
     intro v_279 hF_280
     obtain rfl := cndF.neg hF_280 hc4
     replace S1 := S1.put (by decide : 50 < 184) (undef)
     intro v_281 hF_282
     obtain rfl := cndF.neg hF_282 hc4
     replace S1 := S1.put (by decide : 52 < 184) (undef)
     intro v_284 hF_283; obtain rfl : .bool q_52 = v_284 := Eq.symm hF_283
     replace S1 := S1.put (by decide : 48 < 184) (.bool q_52)
     refine fill_nil S1 ?_; clear S1; intro a_ S1
     rw [show q_52 = true from hl4] at S1
     exact RPost.one (v := undef) S1 tys tys_ok rfl (by kernel_rfl) S.defers ⟨fun k_ => absurd k_ hc4, fun _ => rfl⟩ (Below.refl _ _)
   refine RunAll.cons (eqv (.bool q_55)) [(eqv (.bool q_52), 48), (cndF q_52 false (eqv (.bool (decide (x_57 > (lenI x0))))), 53)] rfl rfl ?_ ?_
   ·intro W_ hW
    by_cases hc4 : q_52 = false
    ·have hl4 : q_52 = false := hc4
     have S1 := S
     intro v_286 hF_285; obtain rfl : .bool q_52 = v_286 := Eq.symm hF_285
     replace S1 := S1.put (by decide : 48 < 184) (.bool q_52)
     intro v_287 hF_288
     replace hF_288 := cndF.pos hF_288 hc4
     revert hF_288
     revert v_287
     intro v_290 hF_289; obtain rfl : .bool (decide (x_57 > (lenI x0))) = v_290 := Eq.symm hF_289
     replace S1 := S1.put (by decide : 53 < 184) (.bool (decide (x_57 > (lenI x0))))
     refine fill_nil S1 ?_; clear S1; intro a_ S1
     rw [show q_52 = false from hl4] at S1
     exact RPost.one (v := .bool (decide (x_57 > (lenI x0)))) S1 tys tys_ok rfl (by kernel_rfl) S.defers (congrArg Value.bool ((HG_56).1 hc4).2) (Below.refl _ _)
    ·have hl4 : q_52 = true := (by simpa using hc4)
     have S1 := S
     intro v_292 hF_291; obtain rfl : .bool q_52 = v_292 := Eq.symm hF_291
     replace S1 := S1.put (by decide : 48 < 184) (.bool q_52)
     intro v_293 hF_294
     obtain rfl := cndF.neg hF_294 hc4
     replace S1 := S1.put (by decide : 53 < 184) (undef)
     refine fill_nil S1 ?_; clear S1; intro a_ S1
     rw [show q_52 = true from hl4] at S1
     exact RPost.one (v := .bool true) S1 tys tys_ok rfl (by kernel_rfl) S.defers (congrArg Value.bool ((HG_56).2 hc4)) (Below.refl _ _)
   exact trivial
  intro w_295 hb_296
  refine EndE.some_ rfl ?_
  intro v_298 hF_297; replace hF_297 : RepV _ _ _ _ _ := hF_297
  replace S := S.put (by decide : 23 < 184) (v_298)
  refine EndE.some_ rfl ?_
  intro v_300 hF_299; replace hF_299 : RepV _ _ _ _ _ := hF_299
  replace S := S.put (by decide : 24 < 184) (v_300)
  refine EndE.some_ rfl ?_
  rintro _ ⟨rfl, hF_301⟩
  replace S := S.put (by decide : 25 < 184) (.string (strOfNums s_32.xs))
  refine EndE.some_ rfl ?_
  intro v_304 hF_303; obtain rfl : .bool (!(decide (s_32.xs = [78, 67, 77, 72]))) = v_304 := Eq.symm hF_303
  replace S := S.put (by decide : 26 < 184) (.bool (!(decide (s_32.xs = [78, 67, 77, 72]))))
  refine EndE.some_ rfl ?_
  intro v_306 hF_305; obtain rfl : .bool (!(decide (s_32.xs = [78, 67, 77, 72]))) = v_306 := Eq.symm hF_305
  replace S := S.put (by decide : 27 < 184) (.bool (!(decide (s_32.xs = [78, 67, 77, 72]))))
  refine EndE.some_ rfl ?_
  intro v_307 _
  replace S := S.put (by decide : 28 < 184) (v_307)
  refine EndE.some_ rfl ?_
  intro v_308 _
  replace S := S.put (by decide : 29 < 184) (v_308)
  refine EndE.some_ rfl ?_
  intro v_309 _
  replace S := S.put (by decide : 30 < 184) (v_309)
  refine EndE.some_ rfl ?_
  intro v_311 hF_310; obtain rfl : .bool q_33 = v_311 := Eq.symm hF_310
  replace S := S.put (by decide : 31 < 184) (.bool q_33)
  refine EndE.some_ rfl ?_
  intro v_313 hF_312; obtain rfl : .bool q_33 = v_313 := Eq.symm hF_312
  replace S := S.put (by decide : 32 < 184) (.bool q_33)
  refine EndE.some_ rfl ?_
  intro v_314 _
  replace S := S.put (by decide : 33 < 184) (v_314)
  refine EndE.some_ rfl ?_
  intro v_315 _
  replace S := S.put (by decide : 34 < 184) (v_315)
  refine EndE.some_ rfl ?_
  intro v_316 _
  replace S := S.put (by decide : 35 < 184) (v_316)
  refine EndE.some_ rfl ?_
  intro v_317 _
  replace S := S.put (by decide : 36 < 184) (v_317)
  refine EndE.some_ rfl ?_
  intro v_318 _
  replace S := S.put (by decide : 37 < 184) (v_318)
  refine EndE.some_ rfl ?_
  intro v_320 hF_319; obtain rfl : .bool q_40 = v_320 := Eq.symm hF_319
  replace S := S.put (by decide : 38 < 184) (.bool q_40)
  refine EndE.some_ rfl ?_
  intro v_322 hF_321; obtain rfl : .bool q_40 = v_322 := Eq.symm hF_321
  replace S := S.put (by decide : 39 < 184) (.bool q_40)
  refine EndE.some_ rfl ?_
  intro v_323 _
  replace S := S.put (by decide : 40 < 184) (v_323)
  refine EndE.some_ rfl ?_
  intro v_324 _
  replace S := S.put (by decide : 41 < 184) (v_324)
  refine EndE.some_ rfl ?_
  intro v_326 hF_325; obtain rfl : .bool q_50 = v_326 := Eq.symm hF_325
  replace S := S.put (by decide : 42 < 184) (.bool q_50)
  refine EndE.some_ rfl ?_
  intro v_328 hF_327; obtain rfl : .bool q_50 = v_328 := Eq.symm hF_327
  replace S := S.put (by decide : 43 < 184) (.bool q_50)
  refine EndE.some_ rfl ?_
  intro v_329 _
  replace S := S.put (by decide : 44 < 184) (v_329)
  refine EndE.some_ rfl ?_
  intro v_330 _
  replace S := S.put (by decide : 45 < 184) (v_330)
  refine EndE.some_ rfl ?_
  intro v_331 _
  replace S := S.put (by decide : 46 < 184) (v_331)
  refine EndE.some_ rfl ?_
  intro v_333 hF_332; obtain rfl : .bool q_52 = v_333 := Eq.symm hF_332
  replace S := S.put (by decide : 47 < 184) (.bool q_52)
  refine EndE.some_ rfl ?_
  intro v_335 hF_334; obtain rfl : .bool q_52 = v_335 := Eq.symm hF_334
  replace S := S.put (by decide : 48 < 184) (.bool q_52)
  refine EndE.some_ rfl ?_
  intro v_336 _
  replace S := S.put (by decide : 49 < 184) (v_336)
  refine EndE.some_ rfl ?_
  intro v_337 _
  replace S := S.put (by decide : 50 < 184) (v_337)
  refine EndE.some_ rfl ?_
  intro v_338 _
  replace S := S.put (by decide : 51 < 184) (v_338)
  refine EndE.some_ rfl ?_
  intro v_339 _
  replace S := S.put (by decide : 52 < 184) (v_339)
  refine EndE.some_ rfl ?_
  intro v_340 _
  replace S := S.put (by decide : 53 < 184) (v_340)
  refine EndE.some_ rfl ?_
  intro v_342 hF_341; obtain rfl : .bool q_55 = v_342 := Eq.symm hF_341
  replace S := S.put (by decide : 54 < 184) (.bool q_55)
  refine endE_nil S ?_; clear S; intro a S
  replace B_2 := B_2.step hb_296
  replace B_6 := B_6.step hb_296
  replace W := W.step hb_296
  refine then_n ?_
  replace S := S.sub (l' := [(54, .bool q_55), (5, .int .i64 t_23), (4, .func (.func 25) #[] #[pB b_1]), (2, pB b_5), (1, pB b_1)]) (by exact ⟨rfl, rfl, rfl, rfl, rfl, trivial⟩)
  refine wp_cond_split (S.eval (show ev _ _ = some (.bool q_55) from rfl)) ?_ ?_
  ·intro hc
   rw [if_pos hc] at h
   refine wp_seq ?_
   refine wp_region_lit ?_
   refine w_go S rfl (op_build (K := (Kx K w.heap.size [some b_5, some b_1])) (f := (.pair (.int .u16) .raw)) (z0 := (0, (.slice .none 0 0))) (x := (0, (.slice .none 0 0))) (vs := []) S _ rfl tyw25_1 z25 (fun w K => ⟨[.int .u16 0], [.slice .none 0 0], rfl, ⟨rfl, by decide⟩, ⟨rfl, _, _, _, rfl⟩⟩) rfl rfl rfl [] rfl rfl ?_)
   clear S; intro a v_343 R_344 S
   refine w_go S rfl (op_store (t' := (.st (.pair (.int .u16) .raw))) S rfl rfl tyw25_1 rfl rfl rfl B_6 (by simp) Ln.whole R_344 ?_)
   intro w_345 hw_346 B_
   replace R_344 := R_344.wrote hw_346 (by simp)
   replace B_2 := B_2.wrote hw_346 (by simp) (W.bne (p := 1) (q := 0) (by decide) rfl rfl)
   replace W := W.wrote hw_346 (by simp)
   replace B_6 : Bx (.st (.pair (.int .u16) .raw)) 25 w_345 (Kx K w.heap.size [some b_5, some b_1]) b_5 (0, (.slice .none 0 0)) := B_; clear B_
   refine wl_pureK (l' := [(3, .int .i64 4), (2, pB b_5)]) S tys tys_ok 1 [3, 2] (by kernel_rfl) ?_
   clear S; intro a S
   refine wpList_nil ?_
   refine then_n ?_
   refine wp_ret ?_
   refine then_r ?_
   replace B_6 : Bx gt0 25 w_345 (Kx K w.heap.size [some b_5, some b_1]) b_5 (0, (⟨[], some 0⟩ : Sl (Sl (Int)))) := Bx.unrawX (t' := gt0) (Lx.st (Lx.right Lx.here)) B_6 RepV.nil
   obtain ⟨v_347, hr_348, R_349⟩ := res_cell (P := Try.prog) (T := 25) (t := gt0) (x := (0, (⟨[], some 0⟩ : Sl (Sl (Int))))) S (s := 2) rfl ty25 B_6.at_
   obtain rfl := Option.some.inj h
   exact b_res2 S rfl hr_348 (res_tmp S rfl) ⟨_, _, rfl, R_349.out, (RepV.mkInt (by decide)), W.below⟩
  ·intro hc
   rw [if_neg (Bool.eq_false_iff.1 hc)] at h
   refine wp_skip ?_
   refine then_n ?_
   replace S := S.sub (l' := [(5, .int .i64 t_23), (4, .func (.func 25) #[] #[pB b_1]), (2, pB b_5), (1, pB b_1)]) (by exact ⟨rfl, rfl, rfl, rfl, trivial⟩)
   refine wp_seq ?_
   refine wp_region_lit ?_
   refine wl_pure (l' := [(57, .int .i64 t_23), (56, .func (.func 25) #[] #[pB b_1]), (5, .int .i64 t_23), (4, .func (.func 25) #[] #[pB b_1]), (2, pB b_5), (1, pB b_1)]) S tys tys_ok 2 (by kernel_rfl) ?_
   clear S; intro a S
   obtain ⟨x_350, ex_350, h⟩ := bindS h
   refine w_go S rfl (op_arith S .i64 (t_23 + 4) rfl (.inl rfl) rfl rfl rfl rfl ex_350 ?_)
   clear S; intro a S
   obtain ⟨t_351, et_351, h⟩ := bindS h
   refine w_go S rfl (op_calld (vs := [.int .i64 x_350]) S rfl rfl cb25 rfl rfl rfl (c25 (Kx K w.heap.size [some b_5, some b_1]) n w_295 x_350 (ckI_some ex_350).2.1 _ x0 (Bx.br B_2) et_351) ?_)
   rintro _ w_355 ⟨v_352, rfl, R_353, hb_354⟩; refine ⟨_, rfl, ?_⟩
   replace R_353 := RepV.back R_353 W
   clear S; intro a S
   replace B_2 := B_2.step hb_354
   replace B_6 := B_6.step hb_354
   replace W := W.step hb_354
   obtain ⟨rfl, GR_353⟩ := RepV.int R_353
   refine wl_pureK (l' := [(6, .int .i64 t_351), (5, .int .i64 t_23), (4, .func (.func 25) #[] #[pB b_1]), (2, pB b_5), (1, pB b_1)]) S tys tys_ok 1 [6, 5, 4, 2, 1] (by kernel_rfl) ?_
   clear S; intro a S
   refine wpList_nil ?_
   refine then_n ?_
   refine wp_seq ?_
   refine wp_seq ?_
   refine wp_region_lit ?_
   refine w_go S rfl (op_load (t := (.sl (.int .u8))) (x := x0) S rfl ty28 rfl rfl rfl B_2.at_ ?_)
   clear S; intro a v_356 R_357 S
   refine wl_pure (l' := [(62, .int .i64 t_23), (61, .int .i64 t_23), (60, v_356), (6, .int .i64 t_351), (5, .int .i64 t_23), (4, .func (.func 25) #[] #[pB b_1]), (2, pB b_5), (1, pB b_1)]) S tys tys_ok 2 (by kernel_rfl) ?_
   clear S; intro a S
   obtain ⟨x_358, ex_358, h⟩ := bindS h
   refine w_go S rfl (op_arith S .i64 (t_23 + 4) rfl (.inl rfl) rfl rfl rfl rfl ex_358 ?_)
   clear S; intro a S
   obtain ⟨s_361, es_361, h⟩ := bindS h
   refine w_go S rfl (op_slice S rfl ty28 rfl rfl rfl R_357 (.inr ⟨_, _, rfl, rfl⟩) (.inr ⟨_, _, rfl, rfl⟩) es_361 ?_)
   clear S; intro a v_359 R_360 S
   refine w_go S rfl (op_str (K := _) S rfl ty28 ty9 rfl rfl rfl R_360 ?_)
   clear S; intro a S
   refine w_go S rfl (op_strne S rfl rfl rfl rfl (by kernel_rfl) (R_360.byt).1 ((strG ([78, 67, 77, 48]) (by decide) (by decide))).1 ?_)
   clear S; intro a S
   refine wl_pureK (l' := [(67, .bool (!(decide (s_361.xs = [78, 67, 77, 48])))), (6, .int .i64 t_351), (5, .int .i64 t_23), (4, .func (.func 25) #[] #[pB b_1]), (2, pB b_5), (1, pB b_1)]) S tys tys_ok 1 [67, 6, 5, 4, 2, 1] (by kernel_rfl) ?_
   clear S; intro a S
   obtain ⟨q_362, eq_362, h⟩ := bindS h
   refine seg 3 (fun a_ w_ => w_355 = w_ ∧ St 184 a_ [(70, .bool q_362), (6, .int .i64 t_351), (5, .int .i64 t_23), (4, .func (.func 25) #[] #[pB b_1]), (2, pB b_5), (1, pB b_1)]) ?_ ?_
   ·by_cases hc : (!(decide (s_361.xs = [78, 67, 77, 48]))) = false
    ·rw [if_pos hc] at eq_362; rw [hc] at S
     refine wl_pureK (l' := [(70, .bool (decide (t_351 < 12))), (6, .int .i64 t_351), (5, .int .i64 t_23), (4, .func (.func 25) #[] #[pB b_1]), (2, pB b_5), (1, pB b_1)]) S tys tys_ok 3 [70, 6, 5, 4, 2, 1] (by kernel_rfl) ?_
     clear S; intro a S
     obtain rfl := Option.some.inj eq_362
     exact ⟨rfl, S.sub (by exact ⟨rfl, rfl, rfl, rfl, rfl, rfl, trivial⟩)⟩
    ·rw [if_neg hc] at eq_362; rw [show (!(decide (s_361.xs = [78, 67, 77, 48]))) = true from (by simpa using hc)] at S
     refine wl_pureK (l' := [(70, .bool true), (6, .int .i64 t_351), (5, .int .i64 t_23), (4, .func (.func 25) #[] #[pB b_1]), (2, pB b_5), (1, pB b_1)]) S tys tys_ok 3 [70, 6, 5, 4, 2, 1] (by kernel_rfl) ?_
     clear S; intro a S
     obtain rfl := Option.some.inj eq_362
     exact ⟨rfl, S.sub (by exact ⟨rfl, rfl, rfl, rfl, rfl, rfl, trivial⟩)⟩
   clear S eq_362; rintro a _ ⟨rfl, S⟩
   refine wl_pure (l' := [(71, .bool q_362), (70, .bool q_362), (6, .int .i64 t_351), (5, .int .i64 t_23), (4, .func (.func 25) #[] #[pB b_1]), (2, pB b_5), (1, pB b_1)]) S tys tys_ok 1 (by kernel_rfl) ?_
   clear S; intro a S
   obtain ⟨q_363, eq_363, h⟩ := bindS h
   refine seg 4 (fun a_ w_ => w_355 = w_ ∧ St 184 a_ [(75, .bool q_363), (6, .int .i64 t_351), (5, .int .i64 t_23), (4, .func (.func 25) #[] #[pB b_1]), (2, pB b_5), (1, pB b_1)]) ?_ ?_
   ·by_cases hc : q_362 = false
    ·rw [if_pos hc] at eq_363; rw [hc] at S
     refine wl_pure (l' := [(72, .int .i64 t_351), (71, .bool false), (70, .bool false), (6, .int .i64 t_351), (5, .int .i64 t_23), (4, .func (.func 25) #[] #[pB b_1]), (2, pB b_5), (1, pB b_1)]) S tys tys_ok 1 (by kernel_rfl) ?_
     clear S; intro a S
     obtain ⟨x_364, ex_364, eq_363⟩ := bindS eq_363
     refine w_go S rfl (op_rem S .i64 rfl rfl rfl rfl rfl ex_364 ?_)
     clear S; intro a S
     refine wl_pureK (l' := [(75, .bool (x_364 != 0)), (6, .int .i64 t_351), (5, .int .i64 t_23), (4, .func (.func 25) #[] #[pB b_1]), (2, pB b_5), (1, pB b_1)]) S tys tys_ok 2 [75, 6, 5, 4, 2, 1] (by kernel_rfl) ?_
     clear S; intro a S
     obtain rfl := Option.some.inj eq_363
     exact ⟨rfl, S.sub (by exact ⟨rfl, rfl, rfl, rfl, rfl, rfl, trivial⟩)⟩
    ·rw [if_neg hc] at eq_363; rw [show q_362 = true from (by simpa using hc)] at S
     refine wl_pureK (l' := [(75, .bool true), (6, .int .i64 t_351), (5, .int .i64 t_23), (4, .func (.func 25) #[] #[pB b_1]), (2, pB b_5), (1, pB b_1)]) S tys tys_ok 4 [75, 6, 5, 4, 2, 1] (by kernel_rfl) ?_
     clear S; intro a S
     obtain rfl := Option.some.inj eq_363
     exact ⟨rfl, S.sub (by exact ⟨rfl, rfl, rfl, rfl, rfl, rfl, trivial⟩)⟩
   clear S eq_363; rintro a _ ⟨rfl, S⟩
   refine wl_pure (l' := [(76, .bool q_363), (75, .bool q_363), (6, .int .i64 t_351), (5, .int .i64 t_23), (4, .func (.func 25) #[] #[pB b_1]), (2, pB b_5), (1, pB b_1)]) S tys tys_ok 1 (by kernel_rfl) ?_
   clear S; intro a S
   obtain ⟨q_365, eq_365, h⟩ := bindS h
   refine seg 7 (fun a_ w_ => w_355 = w_ ∧ St 184 a_ [(83, .bool q_365), (6, .int .i64 t_351), (5, .int .i64 t_23), (4, .func (.func 25) #[] #[pB b_1]), (2, pB b_5), (1, pB b_1)]) ?_ ?_
   ·by_cases hc : q_363 = false
    ·rw [if_pos hc] at eq_365; rw [hc] at S
     refine wl_pure (l' := [(78, .int .i64 t_351), (77, .int .i64 t_23), (76, .bool false), (75, .bool false), (6, .int .i64 t_351), (5, .int .i64 t_23), (4, .func (.func 25) #[] #[pB b_1]), (2, pB b_5), (1, pB b_1)]) S tys tys_ok 2 (by kernel_rfl) ?_
     clear S; intro a S
     obtain ⟨x_366, ex_366, eq_365⟩ := bindS eq_365
     refine w_go S rfl (op_arith S .i64 (t_23 + t_351) rfl (.inl rfl) rfl rfl rfl rfl ex_366 ?_)
     clear S; intro a S
     refine w_go S rfl (op_load (t := (.sl (.int .u8))) (x := x0) S rfl ty28 rfl rfl rfl B_2.at_ ?_)
     clear S; intro a v_367 R_368 S
     refine w_go S rfl (op_len (K := _) S rfl ty28 rfl rfl rfl R_368 ?_)
     clear S; intro a G_369 S
     refine wl_pureK (l' := [(83, .bool (decide (x_366 > (lenI x0)))), (6, .int .i64 t_351), (5, .int .i64 t_23), (4, .func (.func 25) #[] #[pB b_1]), (2, pB b_5), (1, pB b_1)]) S tys tys_ok 2 [83, 6, 5, 4, 2, 1] (by kernel_rfl) ?_
     clear S; intro a S
     obtain rfl := Option.some.inj eq_365
     exact ⟨rfl, S.sub (by exact ⟨rfl, rfl, rfl, rfl, rfl, rfl, trivial⟩)⟩
    ·rw [if_neg hc] at eq_365; rw [show q_363 = true from (by simpa using hc)] at S
     refine wl_pureK (l' := [(83, .bool true), (6, .int .i64 t_351), (5, .int .i64 t_23), (4, .func (.func 25) #[] #[pB b_1]), (2, pB b_5), (1, pB b_1)]) S tys tys_ok 7 [83, 6, 5, 4, 2, 1] (by kernel_rfl) ?_
     clear S; intro a S
     obtain rfl := Option.some.inj eq_365
     exact ⟨rfl, S.sub (by exact ⟨rfl, rfl, rfl, rfl, rfl, rfl, trivial⟩)⟩
   clear S eq_365; rintro a _ ⟨rfl, S⟩
   refine wl_pure (l' := [(84, .bool q_365), (83, .bool q_365), (6, .int .i64 t_351), (5, .int .i64 t_23), (4, .func (.func 25) #[] #[pB b_1]), (2, pB b_5), (1, pB b_1)]) S tys tys_ok 1 (by kernel_rfl) ?_
   clear S; intro a S
   obtain ⟨q_370, eq_370, h⟩ := bindS h
   refine seg 6 (fun a_ w_ => St 184 a_ [(90, .bool q_370), (6, .int .i64 t_351), (5, .int .i64 t_23), (4, .func (.func 25) #[] #[pB b_1]), (2, pB b_5), (1, pB b_1)] ∧ Wd w w_ [some b_5, some b_1] ∧ Bx (.sl (.int .u8)) 28 w_ (Kx K w.heap.size [some b_5, some b_1]) b_1 x0 ∧ Bx (.st (.pair (.int .u16) .raw)) 25 w_ (Kx K w.heap.size [some b_5, some b_1]) b_5 (0, (.slice .none 0 0))) ?_ ?_
   ·by_cases hc : q_365 = false
    ·rw [if_pos hc] at eq_370; rw [hc] at S
     refine wl_pure (l' := [(86, .int .i64 t_23), (85, .func (.func 25) #[] #[pB b_1]), (84, .bool false), (83, .bool false), (6, .int .i64 t_351), (5, .int .i64 t_23), (4, .func (.func 25) #[] #[pB b_1]), (2, pB b_5), (1, pB b_1)]) S tys tys_ok 2 (by kernel_rfl) ?_
     clear S; intro a S
     obtain ⟨x_371, ex_371, eq_370⟩ := bindS eq_370
     refine w_go S rfl (op_arith S .i64 (t_23 + 6) rfl (.inl rfl) rfl rfl rfl rfl ex_371 ?_)
     clear S; intro a S
     obtain ⟨t_372, et_372, eq_370⟩ := bindS eq_370
     refine w_go S rfl (op_calld (vs := [.int .i64 x_371]) S rfl rfl cb25 rfl rfl rfl (c25 (Kx K w.heap.size [some b_5, some b_1]) n w_355 x_371 (ckI_some ex_371).2.1 _ x0 (Bx.br B_2) et_372) ?_)
     rintro _ w_376 ⟨v_373, rfl, R_374, hb_375⟩; refine ⟨_, rfl, ?_⟩
     replace R_374 := RepV.back R_374 W
     clear S; intro a S
     replace B_2 := B_2.step hb_375
     replace B_6 := B_6.step hb_375
     replace W := W.step hb_375
     obtain ⟨rfl, GR_374⟩ := RepV.int R_374
     refine wl_pureK (l' := [(90, .bool (t_372 != 0)), (6, .int .i64 t_351), (5, .int .i64 t_23), (4, .func (.func 25) #[] #[pB b_1]), (2, pB b_5), (1, pB b_1)]) S tys tys_ok 2 [90, 6, 5, 4, 2, 1] (by kernel_rfl) ?_
     clear S; intro a S
     obtain rfl := Option.some.inj eq_370
     exact ⟨S.sub (by exact ⟨rfl, rfl, rfl, rfl, rfl, rfl, trivial⟩), W, B_2, B_6⟩
    ·rw [if_neg hc] at eq_370; rw [show q_365 = true from (by simpa using hc)] at S
     refine wl_pureK (l' := [(90, .bool true), (6, .int .i64 t_351), (5, .int .i64 t_23), (4, .func (.func 25) #[] #[pB b_1]), (2, pB b_5), (1, pB b_1)]) S tys tys_ok 6 [90, 6, 5, 4, 2, 1] (by kernel_rfl) ?_
     clear S; intro a S
     obtain rfl := Option.some.inj eq_370
     exact ⟨S.sub (by exact ⟨rfl, rfl, rfl, rfl, rfl, rfl, trivial⟩), W, B_2, B_6⟩
   clear S W eq_370; rintro a w_377 ⟨S, W, B_2, B_6⟩
   refine wl_pure (l' := [(91, .bool q_370), (90, .bool q_370), (6, .int .i64 t_351), (5, .int .i64 t_23), (4, .func (.func 25) #[] #[pB b_1]), (2, pB b_5), (1, pB b_1)]) S tys tys_ok 1 (by kernel_rfl) ?_
   clear S; intro a S
   obtain ⟨q_378, eq_378, h⟩ := bindS h
   refine seg 8 (fun a_ w_ => St 184 a_ [(99, .bool q_378), (6, .int .i64 t_351), (5, .int .i64 t_23), (4, .func (.func 25) #[] #[pB b_1]), (2, pB b_5), (1, pB b_1)] ∧ Wd w w_ [some b_5, some b_1] ∧ Bx (.sl (.int .u8)) 28 w_ (Kx K w.heap.size [some b_5, some b_1]) b_1 x0 ∧ Bx (.st (.pair (.int .u16) .raw)) 25 w_ (Kx K w.heap.size [some b_5, some b_1]) b_5 (0, (.slice .none 0 0))) ?_ ?_
   ·by_cases hc : q_370 = false
    ·rw [if_pos hc] at eq_378; rw [hc] at S
     refine wl_pure (l' := [(94, .int .i64 t_351), (93, .int .i64 t_23), (92, .func (.func 25) #[] #[pB b_1]), (91, .bool false), (90, .bool false), (6, .int .i64 t_351), (5, .int .i64 t_23), (4, .func (.func 25) #[] #[pB b_1]), (2, pB b_5), (1, pB b_1)]) S tys tys_ok 3 (by kernel_rfl) ?_
     clear S; intro a S
     obtain ⟨x_379, ex_379, eq_378⟩ := bindS eq_378
     refine w_go S rfl (op_arith S .i64 (t_23 + t_351) rfl (.inl rfl) rfl rfl rfl rfl ex_379 ?_)
     clear S; intro a S
     obtain ⟨x_380, ex_380, eq_378⟩ := bindS eq_378
     refine w_go S rfl (op_arith S .i64 (x_379 - 4) rfl (.inr (.inl rfl)) rfl rfl rfl rfl ex_380 ?_)
     clear S; intro a S
     obtain ⟨t_381, et_381, eq_378⟩ := bindS eq_378
     refine w_go S rfl (op_calld (vs := [.int .i64 x_380]) S rfl rfl cb25 rfl rfl rfl (c25 (Kx K w.heap.size [some b_5, some b_1]) n w_377 x_380 (ckI_some ex_380).2.1 _ x0 (Bx.br B_2) et_381) ?_)
     rintro _ w_385 ⟨v_382, rfl, R_383, hb_384⟩; refine ⟨_, rfl, ?_⟩
     replace R_383 := RepV.back R_383 W
     clear S; intro a S
     replace B_2 := B_2.step hb_384
     replace B_6 := B_6.step hb_384
     replace W := W.step hb_384
     obtain ⟨rfl, GR_383⟩ := RepV.int R_383
     refine wl_pureK (l' := [(99, .bool (t_381 != 0)), (6, .int .i64 t_351), (5, .int .i64 t_23), (4, .func (.func 25) #[] #[pB b_1]), (2, pB b_5), (1, pB b_1)]) S tys tys_ok 2 [99, 6, 5, 4, 2, 1] (by kernel_rfl) ?_
     clear S; intro a S
     obtain rfl := Option.some.inj eq_378
     exact ⟨S.sub (by exact ⟨rfl, rfl, rfl, rfl, rfl, rfl, trivial⟩), W, B_2, B_6⟩
    ·rw [if_neg hc] at eq_378; rw [show q_370 = true from (by simpa using hc)] at S
     refine wl_pureK (l' := [(99, .bool true), (6, .int .i64 t_351), (5, .int .i64 t_23), (4, .func (.func 25) #[] #[pB b_1]), (2, pB b_5), (1, pB b_1)]) S tys tys_ok 8 [99, 6, 5, 4, 2, 1] (by kernel_rfl) ?_
     clear S; intro a S
     obtain rfl := Option.some.inj eq_378
     exact ⟨S.sub (by exact ⟨rfl, rfl, rfl, rfl, rfl, rfl, trivial⟩), W, B_2, B_6⟩
   clear S W eq_378; rintro a w_386 ⟨S, W, B_2, B_6⟩
   refine wl_pure (l' := [(100, .bool q_378), (99, .bool q_378), (6, .int .i64 t_351), (5, .int .i64 t_23), (4, .func (.func 25) #[] #[pB b_1]), (2, pB b_5), (1, pB b_1)]) S tys tys_ok 1 (by kernel_rfl) ?_
   clear S; intro a S
   obtain ⟨q_387, eq_387, h⟩ := bindS h
   refine seg 8 (fun a_ w_ => St 184 a_ [(108, .bool q_387), (6, .int .i64 t_351), (5, .int .i64 t_23), (4, .func (.func 25) #[] #[pB b_1]), (2, pB b_5), (1, pB b_1)] ∧ Wd w w_ [some b_5, some b_1] ∧ Bx (.sl (.int .u8)) 28 w_ (Kx K w.heap.size [some b_5, some b_1]) b_1 x0 ∧ Bx (.st (.pair (.int .u16) .raw)) 25 w_ (Kx K w.heap.size [some b_5, some b_1]) b_5 (0, (.slice .none 0 0))) ?_ ?_
   ·by_cases hc : q_378 = false
    ·rw [if_pos hc] at eq_387; rw [hc] at S
     refine wl_pure (l' := [(103, .int .i64 t_351), (102, .int .i64 t_23), (101, .func (.func 25) #[] #[pB b_1]), (100, .bool false), (99, .bool false), (6, .int .i64 t_351), (5, .int .i64 t_23), (4, .func (.func 25) #[] #[pB b_1]), (2, pB b_5), (1, pB b_1)]) S tys tys_ok 3 (by kernel_rfl) ?_
     clear S; intro a S
     obtain ⟨x_388, ex_388, eq_387⟩ := bindS eq_387
     refine w_go S rfl (op_arith S .i64 (t_23 + t_351) rfl (.inl rfl) rfl rfl rfl rfl ex_388 ?_)
     clear S; intro a S
     obtain ⟨x_389, ex_389, eq_387⟩ := bindS eq_387
     refine w_go S rfl (op_arith S .i64 (x_388 - 2) rfl (.inr (.inl rfl)) rfl rfl rfl rfl ex_389 ?_)
     clear S; intro a S
     obtain ⟨t_390, et_390, eq_387⟩ := bindS eq_387
     refine w_go S rfl (op_calld (vs := [.int .i64 x_389]) S rfl rfl cb25 rfl rfl rfl (c25 (Kx K w.heap.size [some b_5, some b_1]) n w_386 x_389 (ckI_some ex_389).2.1 _ x0 (Bx.br B_2) et_390) ?_)
     rintro _ w_394 ⟨v_391, rfl, R_392, hb_393⟩; refine ⟨_, rfl, ?_⟩
     replace R_392 := RepV.back R_392 W
     clear S; intro a S
     replace B_2 := B_2.step hb_393
     replace B_6 := B_6.step hb_393
     replace W := W.step hb_393
     obtain ⟨rfl, GR_392⟩ := RepV.int R_392
     refine wl_pureK (l' := [(108, .bool (t_390 != 0)), (6, .int .i64 t_351), (5, .int .i64 t_23), (4, .func (.func 25) #[] #[pB b_1]), (2, pB b_5), (1, pB b_1)]) S tys tys_ok 2 [108, 6, 5, 4, 2, 1] (by kernel_rfl) ?_
     clear S; intro a S
     obtain rfl := Option.some.inj eq_387
     exact ⟨S.sub (by exact ⟨rfl, rfl, rfl, rfl, rfl, rfl, trivial⟩), W, B_2, B_6⟩
    ·rw [if_neg hc] at eq_387; rw [show q_378 = true from (by simpa using hc)] at S
     refine wl_pureK (l' := [(108, .bool true), (6, .int .i64 t_351), (5, .int .i64 t_23), (4, .func (.func 25) #[] #[pB b_1]), (2, pB b_5), (1, pB b_1)]) S tys tys_ok 8 [108, 6, 5, 4, 2, 1] (by kernel_rfl) ?_
     clear S; intro a S
     obtain rfl := Option.some.inj eq_387
     exact ⟨S.sub (by exact ⟨rfl, rfl, rfl, rfl, rfl, rfl, trivial⟩), W, B_2, B_6⟩
   clear S W eq_387; rintro a w_395 ⟨S, W, B_2, B_6⟩
   refine wpList_nil ?_
   refine then_n ?_
   refine wp_cond_split (S.eval (show ev _ _ = some (.bool q_387) from rfl)) ?_ ?_
   ·intro hc
    rw [if_pos hc] at h
    refine wp_seq ?_
    refine wp_region_lit ?_
    refine w_go S rfl (op_build (K := (Kx K w.heap.size [some b_5, some b_1])) (f := (.pair (.int .u16) .raw)) (z0 := (0, (.slice .none 0 0))) (x := (0, (.slice .none 0 0))) (vs := []) S _ rfl tyw25_1 z25 (fun w K => ⟨[.int .u16 0], [.slice .none 0 0], rfl, ⟨rfl, by decide⟩, ⟨rfl, _, _, _, rfl⟩⟩) rfl rfl rfl [] rfl rfl ?_)
    clear S; intro a v_396 R_397 S
    refine w_go S rfl (op_store (t' := (.st (.pair (.int .u16) .raw))) S rfl rfl tyw25_1 rfl rfl rfl B_6 (by simp) Ln.whole R_397 ?_)
    intro w_398 hw_399 B_
    replace R_397 := R_397.wrote hw_399 (by simp)
    replace B_2 := B_2.wrote hw_399 (by simp) (W.bne (p := 1) (q := 0) (by decide) rfl rfl)
    replace W := W.wrote hw_399 (by simp)
    replace B_6 : Bx (.st (.pair (.int .u16) .raw)) 25 w_398 (Kx K w.heap.size [some b_5, some b_1]) b_5 (0, (.slice .none 0 0)) := B_; clear B_
    refine wl_pureK (l' := [(3, .int .i64 4), (2, pB b_5)]) S tys tys_ok 1 [3, 2] (by kernel_rfl) ?_
    clear S; intro a S
    refine wpList_nil ?_
    refine then_n ?_
    refine wp_ret ?_
    refine then_r ?_
    replace B_6 : Bx gt0 25 w_398 (Kx K w.heap.size [some b_5, some b_1]) b_5 (0, (⟨[], some 0⟩ : Sl (Sl (Int)))) := Bx.unrawX (t' := gt0) (Lx.st (Lx.right Lx.here)) B_6 RepV.nil
    obtain ⟨v_400, hr_401, R_402⟩ := res_cell (P := Try.prog) (T := 25) (t := gt0) (x := (0, (⟨[], some 0⟩ : Sl (Sl (Int))))) S (s := 2) rfl ty25 B_6.at_
    obtain rfl := Option.some.inj h
    exact b_res2 S rfl hr_401 (res_tmp S rfl) ⟨_, _, rfl, R_402.out, (RepV.mkInt (by decide)), W.below⟩
   ·intro hc
    rw [if_neg (Bool.eq_false_iff.1 hc)] at h
    refine wp_skip ?_
    refine then_n ?_
    replace S := S.sub (l' := [(6, .int .i64 t_351), (5, .int .i64 t_23), (4, .func (.func 25) #[] #[pB b_1]), (2, pB b_5), (1, pB b_1)]) (by exact ⟨rfl, rfl, rfl, rfl, rfl, trivial⟩)
    refine wp_seq ?_
    refine wp_region_lit ?_
    refine wl_pure (l' := [(110, .func (.func 25) #[] #[pB b_1]), (6, .int .i64 t_351), (5, .int .i64 t_23), (4, .func (.func 25) #[] #[pB b_1]), (2, pB b_5), (1, pB b_1)]) S tys tys_ok 1 (by kernel_rfl) ?_
    clear S; intro a S
    obtain ⟨t_403, et_403, h⟩ := bindS h
    refine w_go S rfl (op_calld (vs := [.int .i64 6]) S rfl rfl cb25 rfl rfl rfl (c25 (Kx K w.heap.size [some b_5, some b_1]) n w_395 6 (by decide) _ x0 (Bx.br B_2) et_403) ?_)
    rintro _ w_407 ⟨v_404, rfl, R_405, hb_406⟩; refine ⟨_, rfl, ?_⟩
    replace R_405 := RepV.back R_405 W
    clear S; intro a S
    replace B_2 := B_2.step hb_406
    replace B_6 := B_6.step hb_406
    replace W := W.step hb_406
    obtain ⟨rfl, GR_405⟩ := RepV.int R_405
    refine wl_pure (l' := [(112, .int .u16 (IntKind.wrap .u16 t_403)), (111, .int .i64 t_403), (110, .func (.func 25) #[] #[pB b_1]), (6, .int .i64 t_351), (5, .int .i64 t_23), (4, .func (.func 25) #[] #[pB b_1]), (2, pB b_5), (1, pB b_1)]) S tys tys_ok 1 (by kernel_rfl) ?_
    clear S; intro a S
    refine w_go S rfl (op_build (K := (Kx K w.heap.size [some b_5, some b_1])) (f := (.pair (.int .u16) .raw)) (z0 := (0, (.slice .none 0 0))) (x := (IntKind.wrap .u16 t_403, (.slice .none 0 0))) (vs := [.int .u16 (IntKind.wrap .u16 t_403)]) S _ rfl tyw25_1 z25 (fun w K => ⟨[.int .u16 0], [.slice .none 0 0], rfl, ⟨rfl, by decide⟩, ⟨rfl, _, _, _, rfl⟩⟩) rfl rfl rfl [(0, .int .u16 (IntKind.wrap .u16 t_403))] rfl ⟨_, (RepV.mkInt (inR_wrap _ _)), rfl, rfl, rfl⟩ ?_)
    clear S; intro a v_408 R_409 S
    refine w_go S rfl (op_alloc (K := K) (n := w.heap.size) (L := [some b_5, some b_1]) (t := (.st (.pair (.int .u16) .raw))) (y := (0, (.slice .none 0 0))) S rfl rfl rfl _ z25 (fun w K => ⟨[.int .u16 0], [.slice .none 0 0], rfl, ⟨rfl, by decide⟩, ⟨rfl, _, _, _, rfl⟩⟩) ?_)
    clear S; intro a w_412 b_410 hb_413 B_411 S
    replace R_409 := R_409.box hb_413
    replace B_2 := B_2.box hb_413
    replace B_6 := B_6.box hb_413
    replace W := W.box hb_413
    refine w_go S rfl (op_store (t' := (.st (.pair (.int .u16) .raw))) S rfl rfl tyw25_1 rfl rfl rfl B_411 (by simp) Ln.whole R_409 ?_)
    intro w_414 hw_415 B_
    replace R_409 := R_409.wrote hw_415 (by simp)
    replace B_2 := B_2.wrote hw_415 (by simp) (W.bne (p := 2) (q := 0) (by decide) rfl rfl)
    replace B_6 := B_6.wrote hw_415 (by simp) (W.bne (p := 1) (q := 0) (by decide) rfl rfl)
    replace W := W.wrote hw_415 (by simp)
    replace B_411 : Bx (.st (.pair (.int .u16) .raw)) 25 w_414 (Kx K w.heap.size [some b_410, some b_5, some b_1]) b_410 (IntKind.wrap .u16 t_403, (.slice .none 0 0)) := B_; clear B_
    refine wpList_nil ?_
    refine then_n ?_
    replace S := S.sub (l' := [(7, pB b_410), (6, .int .i64 t_351), (5, .int .i64 t_23), (4, .func (.func 25) #[] #[pB b_1]), (2, pB b_5), (1, pB b_1)]) (by exact ⟨rfl, rfl, rfl, rfl, rfl, rfl, trivial⟩)
    refine wp_seq ?_
    refine wp_seq ?_
    refine wp_region_lit ?_
    refine wl_pure (l' := [(114, .int .i64 t_23), (7, pB b_410), (6, .int .i64 t_351), (5, .int .i64 t_23), (4, .func (.func 25) #[] #[pB b_1]), (2, pB b_5), (1, pB b_1)]) S tys tys_ok 1 (by kernel_rfl) ?_
    clear S; intro a S
    obtain ⟨x_416, ex_416, h⟩ := bindS h
    refine w_go S rfl (op_arith S .i64 (t_23 + 8) rfl (.inl rfl) rfl rfl rfl rfl ex_416 ?_)
    clear S; intro a S
    refine wl_pure (l' := [(8, .int .i64 x_416), (115, .int .i64 x_416), (114, .int .i64 t_23), (7, pB b_410), (6, .int .i64 t_351), (5, .int .i64 t_23), (4, .func (.func 25) #[] #[pB b_1]), (2, pB b_5), (1, pB b_1)]) S tys tys_ok 1 (by kernel_rfl) ?_
    clear S; intro a S
    refine wpList_nil ?_
    refine then_n ?_
    replace S := S.sub (l' := [(8, .int .i64 x_416), (7, pB b_410), (6, .int .i64 t_351), (5, .int .i64 t_23), (4, .func (.func 25) #[] #[pB b_1]), (2, pB b_5), (1, pB b_1)]) (by exact ⟨rfl, rfl, rfl, rfl, rfl, rfl, rfl, trivial⟩)
    obtain ⟨y_427, ey_427, h⟩ := bindS h
    refine wp_cut_ (fun a_ w_ => ∃ s_428 : (List (Sl (Int))), y_427 = .inl s_428 ∧ (∃ (v_429 : Value), St 184 a_ [(2, pB b_5), (7, pB b_410)] ∧ Wd w w_ [v_429.ownBlock, some b_410, some b_5, some b_1] ∧ Bx (.sl (.int .u8)) 28 w_ (Kx K w.heap.size [v_429.ownBlock, some b_410, some b_5, some b_1]) b_1 x0 ∧ Bx (.st (.pair (.int .u16) .raw)) 25 w_ (Kx K w.heap.size [v_429.ownBlock, some b_410, some b_5, some b_1]) b_5 (0, (.slice .none 0 0)) ∧ Bx (.st (.pair (.int .u16) .raw)) 25 w_ (Kx K w.heap.size [v_429.ownBlock, some b_410, some b_5, some b_1]) b_410 (IntKind.wrap .u16 t_403, v_429) ∧ Ow (.sl (.int .u8)) 28 w_ w.heap.size (Kx K w.heap.size [v_429.ownBlock, some b_410, some b_5, some b_1]) v_429 s_428 .none)) ?_ ?_
    ·refine wp_block ?_
     refine wp_loop_n (fun m_ a_ w_ => ∃ (c_417 : Int) (c_419 : List (Sl (Int))) , ∃ (v_420 : Value), St 184 a_ [(8, .int .i64 c_417), (7, pB b_410), (6, .int .i64 t_351), (5, .int .i64 t_23), (4, .func (.func 25) #[] #[pB b_1]), (2, pB b_5), (1, pB b_1)] ∧ Wd w w_ [v_420.ownBlock, some b_410, some b_5, some b_1] ∧ InR .i64 c_417 ∧ Bx (.sl (.int .u8)) 28 w_ (Kx K w.heap.size [v_420.ownBlock, some b_410, some b_5, some b_1]) b_1 x0 ∧ Bx (.st (.pair (.int .u16) .raw)) 25 w_ (Kx K w.heap.size [v_420.ownBlock, some b_410, some b_5, some b_1]) b_5 (0, (.slice .none 0 0)) ∧ Bx (.st (.pair (.int .u16) .raw)) 25 w_ (Kx K w.heap.size [v_420.ownBlock, some b_410, some b_5, some b_1]) b_410 (IntKind.wrap .u16 t_403, v_420) ∧ Ow (.sl (.int .u8)) 28 w_ w.heap.size (Kx K w.heap.size [v_420.ownBlock, some b_410, some b_5, some b_1]) v_420 c_419 .none ∧ p12_l1 n x0 t_23 t_351 m_ c_417 c_419 = some y_427) n ?_ ?_
     ·skip
      replace B_2 := B_2.more
      replace B_6 := B_6.more
      replace B_411 := B_411.more
      replace W := W.more
      have O_433 : Ow (.sl (.int .u8)) 28 w_414 w.heap.size (Kx K w.heap.size [.none, some b_410, some b_5, some b_1]) (.slice .none 0 0) ([] : List (Sl (Int))) (some 0) := Ow.nil
      exact ⟨x_416, [], ⟨(.slice .none 0 0), S.sub (by exact ⟨rfl, rfl, rfl, rfl, rfl, rfl, rfl, trivial⟩), W, (ckI_some ex_416).2.1, B_2, B_6, B_411, O_433.forget, ey_427⟩⟩
     ·clear S W; rintro m_431 a w_434 ⟨c_417, c_419, v_420, S, W, G_418, B_2, B_6, B_411, O_421, hl_432⟩
      cases m_431 with
      | zero => exact absurd hl_432 (by simp [p12_l1])
      | succ m_431 =>
       refine ⟨m_431, rfl, ?_⟩
       rw [p12_l1] at hl_432
       refine wp_seq ?_
       refine wp_seq ?_
       refine wp_region_lit ?_
       refine wl_pure (l' := [(118, .int .i64 t_351), (117, .int .i64 t_23), (116, .int .i64 c_417), (8, .int .i64 c_417), (7, pB b_410), (6, .int .i64 t_351), (5, .int .i64 t_23), (4, .func (.func 25) #[] #[pB b_1]), (2, pB b_5), (1, pB b_1)]) S tys tys_ok 3 (by kernel_rfl) ?_
       clear S; intro a S
       obtain ⟨x_435, ex_435, hl_432⟩ := bindS hl_432
       refine w_go S rfl (op_arith S .i64 (t_23 + t_351) rfl (.inl rfl) rfl rfl rfl rfl ex_435 ?_)
       clear S; intro a S
       obtain ⟨x_436, ex_436, hl_432⟩ := bindS hl_432
       refine w_go S rfl (op_arith S .i64 (x_435 - 4) rfl (.inr (.inl rfl)) rfl rfl rfl rfl ex_436 ?_)
       clear S; intro a S
       refine wl_pureK (l' := [(121, .bool (decide (c_417 < x_436))), (8, .int .i64 c_417), (7, pB b_410), (6, .int .i64 t_351), (5, .int .i64 t_23), (4, .func (.func 25) #[] #[pB b_1]), (2, pB b_5), (1, pB b_1)]) S tys tys_ok 1 [121, 8, 7, 6, 5, 4, 2, 1] (by kernel_rfl) ?_
       clear S; intro a S
       refine wpList_nil ?_
       refine then_n ?_
       refine wp_cond_split (S.eval (show ev _ _ = some (.bool (decide (c_417 < x_436))) from rfl)) ?_ ?_
       ·intro hc
        rw [if_pos hc] at hl_432
        refine wp_skip ?_
        refine then_n ?_
        replace S := S.sub (l' := [(8, .int .i64 c_417), (7, pB b_410), (6, .int .i64 t_351), (5, .int .i64 t_23), (4, .func (.func 25) #[] #[pB b_1]), (2, pB b_5), (1, pB b_1)]) (by exact ⟨rfl, rfl, rfl, rfl, rfl, rfl, rfl, trivial⟩)
        refine wp_seq ?_
        refine wp_block ?_
        refine wp_seq ?_
        refine wp_region_lit ?_
        refine wl_pure (l' := [(125, .int .i64 c_417), (124, .func (.func 25) #[] #[pB b_1]), (8, .int .i64 c_417), (7, pB b_410), (6, .int .i64 t_351), (5, .int .i64 t_23), (4, .func (.func 25) #[] #[pB b_1]), (2, pB b_5), (1, pB b_1)]) S tys tys_ok 2 (by kernel_rfl) ?_
        clear S; intro a S
        obtain ⟨t_437, et_437, hl_432⟩ := bindS hl_432
        refine w_go S rfl (op_calld (vs := [.int .i64 c_417]) S rfl rfl cb25 rfl rfl rfl (c25 (Kx K w.heap.size [v_420.ownBlock, some b_410, some b_5, some b_1]) n w_434 c_417 G_418 _ x0 (Bx.br B_2) et_437) ?_)
        rintro _ w_441 ⟨v_438, rfl, R_439, hb_440⟩; refine ⟨_, rfl, ?_⟩
        replace R_439 := RepV.back R_439 W
        clear S; intro a S
        replace B_2 := B_2.step hb_440
        replace B_6 := B_6.step hb_440
        replace B_411 := B_411.step hb_440
        replace O_421 := O_421.step hb_440
        replace W := W.step hb_440
        obtain ⟨rfl, GR_439⟩ := RepV.int R_439
        refine wl_pure (l' := [(128, .int .i64 c_417), (127, .func (.func 25) #[] #[pB b_1]), (126, .int .i64 t_437), (125, .int .i64 c_417), (124, .func (.func 25) #[] #[pB b_1]), (8, .int .i64 c_417), (7, pB b_410), (6, .int .i64 t_351), (5, .int .i64 t_23), (4, .func (.func 25) #[] #[pB b_1]), (2, pB b_5), (1, pB b_1)]) S tys tys_ok 2 (by kernel_rfl) ?_
        clear S; intro a S
        obtain ⟨x_442, ex_442, hl_432⟩ := bindS hl_432
        refine w_go S rfl (op_arith S .i64 (c_417 + 2) rfl (.inl rfl) rfl rfl rfl rfl ex_442 ?_)
        clear S; intro a S
        obtain ⟨t_443, et_443, hl_432⟩ := bindS hl_432
        refine w_go S rfl (op_calld (vs := [.int .i64 x_442]) S rfl rfl cb25 rfl rfl rfl (c25 (Kx K w.heap.size [v_420.ownBlock, some b_410, some b_5, some b_1]) n w_441 x_442 (ckI_some ex_442).2.1 _ x0 (Bx.br B_2) et_443) ?_)
        rintro _ w_447 ⟨v_444, rfl, R_445, hb_446⟩; refine ⟨_, rfl, ?_⟩
        replace R_445 := RepV.back R_445 W
        clear S; intro a S
        replace B_2 := B_2.step hb_446
        replace B_6 := B_6.step hb_446
        replace B_411 := B_411.step hb_446
        replace O_421 := O_421.step hb_446
        replace W := W.step hb_446
        obtain ⟨rfl, GR_445⟩ := RepV.int R_445
        refine wl_pureK (l' := [(10, .int .i64 t_443), (9, .int .i64 t_437), (8, .int .i64 c_417), (7, pB b_410), (6, .int .i64 t_351), (5, .int .i64 t_23), (4, .func (.func 25) #[] #[pB b_1]), (2, pB b_5), (1, pB b_1)]) S tys tys_ok 2 [10, 9, 8, 7, 6, 5, 4, 2, 1] (by kernel_rfl) ?_
        clear S; intro a S
        refine wpList_nil ?_
        refine then_n ?_
        refine wp_seq ?_
        refine wp_seq ?_
        refine wp_region_lit ?_
        refine wl_pure (l' := [(133, .bool (t_437 == 0)), (132, .bool (t_437 == 0)), (131, .int .i64 t_437), (10, .int .i64 t_443), (9, .int .i64 t_437), (8, .int .i64 c_417), (7, pB b_410), (6, .int .i64 t_351), (5, .int .i64 t_23), (4, .func (.func 25) #[] #[pB b_1]), (2, pB b_5), (1, pB b_1)]) S tys tys_ok 3 (by kernel_rfl) ?_
        clear S; intro a S
        obtain ⟨q_448, eq_448, hl_432⟩ := bindS hl_432
        refine seg 3 (fun a_ w_ => w_447 = w_ ∧ St 184 a_ [(136, .bool q_448), (10, .int .i64 t_443), (9, .int .i64 t_437), (8, .int .i64 c_417), (7, pB b_410), (6, .int .i64 t_351), (5, .int .i64 t_23), (4, .func (.func 25) #[] #[pB b_1]), (2, pB b_5), (1, pB b_1)]) ?_ ?_
        ·by_cases hc : (t_437 == 0) = true
         ·rw [if_pos hc] at eq_448; rw [hc] at S
          refine wl_pureK (l' := [(136, .bool (t_443 == 0)), (135, .bool (t_443 == 0)), (134, .int .i64 t_443), (10, .int .i64 t_443), (9, .int .i64 t_437), (8, .int .i64 c_417), (7, pB b_410), (6, .int .i64 t_351), (5, .int .i64 t_23), (4, .func (.func 25) #[] #[pB b_1]), (2, pB b_5), (1, pB b_1)]) S tys tys_ok 3 [136, 135, 134, 10, 9, 8, 7, 6, 5, 4, 2, 1] (by kernel_rfl) ?_
          clear S; intro a S
          obtain rfl := Option.some.inj eq_448
          exact ⟨rfl, S.sub (by exact ⟨rfl, rfl, rfl, rfl, rfl, rfl, rfl, rfl, rfl, rfl, trivial⟩)⟩
         ·rw [if_neg hc] at eq_448; rw [show (t_437 == 0) = false from Bool.eq_false_iff.2 hc] at S
          refine wl_pureK (l' := [(136, .bool false), (135, undef), (134, undef), (10, .int .i64 t_443), (9, .int .i64 t_437), (8, .int .i64 c_417), (7, pB b_410), (6, .int .i64 t_351), (5, .int .i64 t_23), (4, .func (.func 25) #[] #[pB b_1]), (2, pB b_5), (1, pB b_1)]) S tys tys_ok 3 [136, 135, 134, 10, 9, 8, 7, 6, 5, 4, 2, 1] (by kernel_rfl) ?_
          clear S; intro a S
          obtain rfl := Option.some.inj eq_448
          exact ⟨rfl, S.sub (by exact ⟨rfl, rfl, rfl, rfl, rfl, rfl, rfl, rfl, rfl, rfl, trivial⟩)⟩
        clear S eq_448; rintro a _ ⟨rfl, S⟩
        refine wpList_nil ?_
        refine then_n ?_
        refine wp_cond_split (S.eval (show ev _ _ = some (.bool q_448) from rfl)) ?_ ?_
        ·intro hc
         rw [if_pos hc] at hl_432
         refine wp_exit ?_
         refine then_x ?_
         refine blk_miss rfl ?_
         refine then_x ?_
         refine then_x ?_
         refine blk_hit ?_
         refine then_n ?_
         obtain rfl := Option.some.inj hl_432
         exact ⟨_, rfl, ⟨v_420, S.sub (by exact ⟨rfl, rfl, trivial⟩), W, B_2, B_6, B_411, O_421⟩⟩
        ·intro hc
         rw [if_neg (Bool.eq_false_iff.1 hc)] at hl_432
         refine wp_skip ?_
         refine then_n ?_
         replace S := S.sub (l' := [(10, .int .i64 t_443), (9, .int .i64 t_437), (8, .int .i64 c_417), (7, pB b_410), (6, .int .i64 t_351), (5, .int .i64 t_23), (4, .func (.func 25) #[] #[pB b_1]), (2, pB b_5), (1, pB b_1)]) (by exact ⟨rfl, rfl, rfl, rfl, rfl, rfl, rfl, rfl, rfl, trivial⟩)
         refine wp_seq ?_
         refine wp_seq ?_
         refine wp_region_lit ?_
         refine wl_pure (l' := [(139, .bool (decide (t_437 < 12))), (138, .bool (decide (t_437 < 12))), (137, .int .i64 t_437), (10, .int .i64 t_443), (9, .int .i64 t_437), (8, .int .i64 c_417), (7, pB b_410), (6, .int .i64 t_351), (5, .int .i64 t_23), (4, .func (.func 25) #[] #[pB b_1]), (2, pB b_5), (1, pB b_1)]) S tys tys_ok 3 (by kernel_rfl) ?_
         clear S; intro a S
         obtain ⟨q_449, eq_449, hl_432⟩ := bindS hl_432
         refine seg 4 (fun a_ w_ => w_447 = w_ ∧ St 184 a_ [(143, .bool q_449), (10, .int .i64 t_443), (9, .int .i64 t_437), (8, .int .i64 c_417), (7, pB b_410), (6, .int .i64 t_351), (5, .int .i64 t_23), (4, .func (.func 25) #[] #[pB b_1]), (2, pB b_5), (1, pB b_1)]) ?_ ?_
         ·by_cases hc : (decide (t_437 < 12)) = false
          ·rw [if_pos hc] at eq_449; rw [hc] at S
           refine wl_pure (l' := [(140, .int .i64 t_437), (139, .bool false), (138, .bool false), (137, .int .i64 t_437), (10, .int .i64 t_443), (9, .int .i64 t_437), (8, .int .i64 c_417), (7, pB b_410), (6, .int .i64 t_351), (5, .int .i64 t_23), (4, .func (.func 25) #[] #[pB b_1]), (2, pB b_5), (1, pB b_1)]) S tys tys_ok 1 (by kernel_rfl) ?_
           clear S; intro a S
           obtain ⟨x_450, ex_450, eq_449⟩ := bindS eq_449
           refine w_go S rfl (op_rem S .i64 rfl rfl rfl rfl rfl ex_450 ?_)
           clear S; intro a S
           refine wl_pureK (l' := [(143, .bool (x_450 != 0)), (142, .bool (x_450 != 0)), (141, .int .i64 x_450), (140, .int .i64 t_437), (10, .int .i64 t_443), (9, .int .i64 t_437), (8, .int .i64 c_417), (7, pB b_410), (6, .int .i64 t_351), (5, .int .i64 t_23), (4, .func (.func 25) #[] #[pB b_1]), (2, pB b_5), (1, pB b_1)]) S tys tys_ok 2 [143, 142, 141, 140, 10, 9, 8, 7, 6, 5, 4, 2, 1] (by kernel_rfl) ?_
           clear S; intro a S
           obtain rfl := Option.some.inj eq_449
           exact ⟨rfl, S.sub (by exact ⟨rfl, rfl, rfl, rfl, rfl, rfl, rfl, rfl, rfl, rfl, trivial⟩)⟩
          ·rw [if_neg hc] at eq_449; rw [show (decide (t_437 < 12)) = true from (by simpa using hc)] at S
           refine wl_pureK (l' := [(143, .bool true), (142, undef), (141, undef), (140, undef), (10, .int .i64 t_443), (9, .int .i64 t_437), (8, .int .i64 c_417), (7, pB b_410), (6, .int .i64 t_351), (5, .int .i64 t_23), (4, .func (.func 25) #[] #[pB b_1]), (2, pB b_5), (1, pB b_1)]) S tys tys_ok 4 [143, 142, 141, 140, 10, 9, 8, 7, 6, 5, 4, 2, 1] (by kernel_rfl) ?_
           clear S; intro a S
           obtain rfl := Option.some.inj eq_449
           exact ⟨rfl, S.sub (by exact ⟨rfl, rfl, rfl, rfl, rfl, rfl, rfl, rfl, rfl, rfl, trivial⟩)⟩
         clear S eq_449; rintro a _ ⟨rfl, S⟩
         refine wl_pure (l' := [(144, .bool q_449), (143, .bool q_449), (10, .int .i64 t_443), (9, .int .i64 t_437), (8, .int .i64 c_417), (7, pB b_410), (6, .int .i64 t_351), (5, .int .i64 t_23), (4, .func (.func 25) #[] #[pB b_1]), (2, pB b_5), (1, pB b_1)]) S tys tys_ok 1 (by kernel_rfl) ?_
         clear S; intro a S
         obtain ⟨q_451, eq_451, hl_432⟩ := bindS hl_432
         refine seg 3 (fun a_ w_ => w_447 = w_ ∧ St 184 a_ [(147, .bool q_451), (10, .int .i64 t_443), (9, .int .i64 t_437), (8, .int .i64 c_417), (7, pB b_410), (6, .int .i64 t_351), (5, .int .i64 t_23), (4, .func (.func 25) #[] #[pB b_1]), (2, pB b_5), (1, pB b_1)]) ?_ ?_
         ·by_cases hc : q_449 = false
          ·rw [if_pos hc] at eq_451; rw [hc] at S
           refine wl_pure (l' := [(147, .bool (decide (t_443 < 1))), (146, .bool (decide (t_443 < 1))), (145, .int .i64 t_443), (144, .bool false), (143, .bool false), (10, .int .i64 t_443), (9, .int .i64 t_437), (8, .int .i64 c_417), (7, pB b_410), (6, .int .i64 t_351), (5, .int .i64 t_23), (4, .func (.func 25) #[] #[pB b_1]), (2, pB b_5), (1, pB b_1)]) S tys tys_ok 3 (by kernel_rfl) ?_
           clear S; intro a S
           obtain rfl := Option.some.inj eq_451
           exact ⟨rfl, S.sub (by exact ⟨rfl, rfl, rfl, rfl, rfl, rfl, rfl, rfl, rfl, rfl, trivial⟩)⟩
          ·rw [if_neg hc] at eq_451; rw [show q_449 = true from (by simpa using hc)] at S
           refine wl_pure (l' := [(147, .bool true), (146, undef), (145, undef), (144, .bool true), (143, .bool true), (10, .int .i64 t_443), (9, .int .i64 t_437), (8, .int .i64 c_417), (7, pB b_410), (6, .int .i64 t_351), (5, .int .i64 t_23), (4, .func (.func 25) #[] #[pB b_1]), (2, pB b_5), (1, pB b_1)]) S tys tys_ok 3 (by kernel_rfl) ?_
           clear S; intro a S
           obtain rfl := Option.some.inj eq_451
           exact ⟨rfl, S.sub (by exact ⟨rfl, rfl, rfl, rfl, rfl, rfl, rfl, rfl, rfl, rfl, trivial⟩)⟩
         clear S eq_451; rintro a _ ⟨rfl, S⟩
         refine wl_pure (l' := [(148, .bool q_451), (147, .bool q_451), (10, .int .i64 t_443), (9, .int .i64 t_437), (8, .int .i64 c_417), (7, pB b_410), (6, .int .i64 t_351), (5, .int .i64 t_23), (4, .func (.func 25) #[] #[pB b_1]), (2, pB b_5), (1, pB b_1)]) S tys tys_ok 1 (by kernel_rfl) ?_
         clear S; intro a S
         obtain ⟨q_452, eq_452, hl_432⟩ := bindS hl_432
         refine seg 3 (fun a_ w_ => w_447 = w_ ∧ St 184 a_ [(151, .bool q_452), (10, .int .i64 t_443), (9, .int .i64 t_437), (8, .int .i64 c_417), (7, pB b_410), (6, .int .i64 t_351), (5, .int .i64 t_23), (4, .func (.func 25) #[] #[pB b_1]), (2, pB b_5), (1, pB b_1)]) ?_ ?_
         ·by_cases hc : q_451 = false
          ·rw [if_pos hc] at eq_452; rw [hc] at S
           refine wl_pure (l' := [(151, .bool (decide (t_443 > 1514))), (150, .bool (decide (t_443 > 1514))), (149, .int .i64 t_443), (148, .bool false), (147, .bool false), (10, .int .i64 t_443), (9, .int .i64 t_437), (8, .int .i64 c_417), (7, pB b_410), (6, .int .i64 t_351), (5, .int .i64 t_23), (4, .func (.func 25) #[] #[pB b_1]), (2, pB b_5), (1, pB b_1)]) S tys tys_ok 3 (by kernel_rfl) ?_
           clear S; intro a S
           obtain rfl := Option.some.inj eq_452
           exact ⟨rfl, S.sub (by exact ⟨rfl, rfl, rfl, rfl, rfl, rfl, rfl, rfl, rfl, rfl, trivial⟩)⟩
          ·rw [if_neg hc] at eq_452; rw [show q_451 = true from (by simpa using hc)] at S
           refine wl_pure (l' := [(151, .bool true), (150, undef), (149, undef), (148, .bool true), (147, .bool true), (10, .int .i64 t_443), (9, .int .i64 t_437), (8, .int .i64 c_417), (7, pB b_410), (6, .int .i64 t_351), (5, .int .i64 t_23), (4, .func (.func 25) #[] #[pB b_1]), (2, pB b_5), (1, pB b_1)]) S tys tys_ok 3 (by kernel_rfl) ?_
           clear S; intro a S
           obtain rfl := Option.some.inj eq_452
           exact ⟨rfl, S.sub (by exact ⟨rfl, rfl, rfl, rfl, rfl, rfl, rfl, rfl, rfl, rfl, trivial⟩)⟩
         clear S eq_452; rintro a _ ⟨rfl, S⟩
         refine wl_pure (l' := [(152, .bool q_452), (151, .bool q_452), (10, .int .i64 t_443), (9, .int .i64 t_437), (8, .int .i64 c_417), (7, pB b_410), (6, .int .i64 t_351), (5, .int .i64 t_23), (4, .func (.func 25) #[] #[pB b_1]), (2, pB b_5), (1, pB b_1)]) S tys tys_ok 1 (by kernel_rfl) ?_
         clear S; intro a S
         obtain ⟨q_453, eq_453, hl_432⟩ := bindS hl_432
         refine seg 7 (fun a_ w_ => w_447 = w_ ∧ St 184 a_ [(159, .bool q_453), (10, .int .i64 t_443), (9, .int .i64 t_437), (8, .int .i64 c_417), (7, pB b_410), (6, .int .i64 t_351), (5, .int .i64 t_23), (4, .func (.func 25) #[] #[pB b_1]), (2, pB b_5), (1, pB b_1)]) ?_ ?_
         ·by_cases hc : q_452 = false
          ·rw [if_pos hc] at eq_453; rw [hc] at S
           refine wl_pure (l' := [(154, .int .i64 t_443), (153, .int .i64 t_437), (152, .bool false), (151, .bool false), (10, .int .i64 t_443), (9, .int .i64 t_437), (8, .int .i64 c_417), (7, pB b_410), (6, .int .i64 t_351), (5, .int .i64 t_23), (4, .func (.func 25) #[] #[pB b_1]), (2, pB b_5), (1, pB b_1)]) S tys tys_ok 2 (by kernel_rfl) ?_
           clear S; intro a S
           obtain ⟨x_454, ex_454, eq_453⟩ := bindS eq_453
           refine w_go S rfl (op_arith S .i64 (t_437 + t_443) rfl (.inl rfl) rfl rfl rfl rfl ex_454 ?_)
           clear S; intro a S
           refine w_go S rfl (op_load (t := (.sl (.int .u8))) (x := x0) S rfl ty28 rfl rfl rfl B_2.at_ ?_)
           clear S; intro a v_455 R_456 S
           refine w_go S rfl (op_len (K := _) S rfl ty28 rfl rfl rfl R_456 ?_)
           clear S; intro a G_457 S
           refine wl_pure (l' := [(159, .bool (decide (x_454 > (lenI x0)))), (158, .bool (decide (x_454 > (lenI x0)))), (157, .int .i64 (lenI x0)), (156, v_455), (155, .int .i64 x_454), (154, .int .i64 t_443), (153, .int .i64 t_437), (152, .bool false), (151, .bool false), (10, .int .i64 t_443), (9, .int .i64 t_437), (8, .int .i64 c_417), (7, pB b_410), (6, .int .i64 t_351), (5, .int .i64 t_23), (4, .func (.func 25) #[] #[pB b_1]), (2, pB b_5), (1, pB b_1)]) S tys tys_ok 2 (by kernel_rfl) ?_
           clear S; intro a S
           obtain rfl := Option.some.inj eq_453
           exact ⟨rfl, S.sub (by exact ⟨rfl, rfl, rfl, rfl, rfl, rfl, rfl, rfl, rfl, rfl, trivial⟩)⟩
          ·rw [if_neg hc] at eq_453; rw [show q_452 = true from (by simpa using hc)] at S
           refine wl_pure (l' := [(159, .bool true), (158, undef), (157, undef), (156, undef), (155, undef), (154, undef), (153, undef), (152, .bool true), (151, .bool true), (10, .int .i64 t_443), (9, .int .i64 t_437), (8, .int .i64 c_417), (7, pB b_410), (6, .int .i64 t_351), (5, .int .i64 t_23), (4, .func (.func 25) #[] #[pB b_1]), (2, pB b_5), (1, pB b_1)]) S tys tys_ok 7 (by kernel_rfl) ?_
           clear S; intro a S
           obtain rfl := Option.some.inj eq_453
           exact ⟨rfl, S.sub (by exact ⟨rfl, rfl, rfl, rfl, rfl, rfl, rfl, rfl, rfl, rfl, trivial⟩)⟩
         clear S eq_453; rintro a _ ⟨rfl, S⟩
         refine wpList_nil ?_
         refine then_n ?_
         refine wp_cond_split (S.eval (show ev _ _ = some (.bool q_453) from rfl)) ?_ ?_
         ·intro hc
          rw [if_pos hc] at hl_432
          refine wp_seq ?_
          refine wp_region_lit ?_
          refine w_go S rfl (op_build (K := (Kx K w.heap.size [v_420.ownBlock, some b_410, some b_5, some b_1])) (f := (.pair (.int .u16) .raw)) (z0 := (0, (.slice .none 0 0))) (x := (0, (.slice .none 0 0))) (vs := []) S _ rfl tyw25_1 z25 (fun w K => ⟨[.int .u16 0], [.slice .none 0 0], rfl, ⟨rfl, by decide⟩, ⟨rfl, _, _, _, rfl⟩⟩) rfl rfl rfl [] rfl rfl ?_)
          clear S; intro a v_458 R_459 S
          refine w_go S rfl (op_store (t' := (.st (.pair (.int .u16) .raw))) S rfl rfl tyw25_1 rfl rfl rfl B_6 (by simp) Ln.whole R_459 ?_)
          intro w_460 hw_461 B_
          replace R_459 := R_459.wrote hw_461 (by simp)
          replace B_2 := B_2.wrote hw_461 (by simp) (W.bne (p := 3) (q := 2) (by decide) rfl rfl)
          replace B_411 := B_411.wrote hw_461 (by simp) (W.bne (p := 1) (q := 2) (by decide) rfl rfl)
          replace O_421 := O_421.wrote hw_461 (by simp) (W.one (p := 0) (q := 2) (by decide) rfl rfl)
          replace W := W.wrote hw_461 (by simp)
          replace B_6 : Bx (.st (.pair (.int .u16) .raw)) 25 w_460 (Kx K w.heap.size [v_420.ownBlock, some b_410, some b_5, some b_1]) b_5 (0, (.slice .none 0 0)) := B_; clear B_
          refine wl_pureK (l' := [(3, .int .i64 4), (2, pB b_5)]) S tys tys_ok 1 [3, 2] (by kernel_rfl) ?_
          clear S; intro a S
          refine wpList_nil ?_
          refine then_n ?_
          refine wp_ret ?_
          refine then_r ?_
          refine blk_r ?_
          refine then_r ?_
          refine then_r ?_
          refine blk_r ?_
          refine then_r ?_
          refine then_r ?_
          replace B_6 : Bx gt0 25 w_460 (Kx K w.heap.size [v_420.ownBlock, some b_410, some b_5, some b_1]) b_5 (0, (⟨[], some 0⟩ : Sl (Sl (Int)))) := Bx.unrawX (t' := gt0) (Lx.st (Lx.right Lx.here)) B_6 RepV.nil
          obtain ⟨v_462, hr_463, R_464⟩ := res_cell (P := Try.prog) (T := 25) (t := gt0) (x := (0, (⟨[], some 0⟩ : Sl (Sl (Int))))) S (s := 2) rfl ty25 B_6.at_
          obtain rfl := Option.some.inj hl_432
          obtain rfl := lr_inr h
          exact b_res2 S rfl hr_463 (res_tmp S rfl) ⟨_, _, rfl, R_464.out, (RepV.mkInt (by decide)), W.below⟩
         ·intro hc
          rw [if_neg (Bool.eq_false_iff.1 hc)] at hl_432
          refine wp_skip ?_
          refine then_n ?_
          replace S := S.sub (l' := [(10, .int .i64 t_443), (9, .int .i64 t_437), (8, .int .i64 c_417), (7, pB b_410), (6, .int .i64 t_351), (5, .int .i64 t_23), (4, .func (.func 25) #[] #[pB b_1]), (2, pB b_5), (1, pB b_1)]) (by exact ⟨rfl, rfl, rfl, rfl, rfl, rfl, rfl, rfl, rfl, trivial⟩)
          obtain ⟨x_469, ex_469, hl_432⟩ := bindS hl_432
          obtain ⟨s_472, es_472, hl_432⟩ := bindS hl_432
          obtain ⟨t_473, et_473, hl_432⟩ := bindS hl_432
          obtain ⟨t_478, et_478, hl_432⟩ := bindS hl_432
          have hR : Rel (Kx K w.heap.size [v_420.ownBlock, some b_410, some b_5, some b_1]) Bl := Bl.rel _
          refine wp_region_suf 11 [1, 11, 7, 7, 6, 6, 7, 8, 9, 11, 11, 12, 13] hR [eqv (.pointer (some ((⟨b_410, 0, .none⟩ : Addr).add (coff gf0 1)))), eqv (v_420), isRep (.sl (.int .u8)) (Kx K w.heap.size [v_420.ownBlock, some b_410, some b_5, some b_1]) x0, isI .i64 t_437, isI .i64 t_437, isI .i64 t_443, isI .i64 x_469, isRep (.sl (.int .u8)) (Kx K w.heap.size [v_420.ownBlock, some b_410, some b_5, some b_1]) s_472, isRep (.sl (.int .u8)) (Kx K w.heap.size [v_420.ownBlock, some b_410, some b_5, some b_1]) t_473, isRep (.sl (.int .u8)) (Kx K w.heap.size [v_420.ownBlock, some b_410, some b_5, some b_1]) t_478, isRep (.sl (.sl (.int .u8))) (Kx K w.heap.size [v_420.ownBlock, some b_410, some b_5, some b_1]) (⟨[t_478], some 1⟩ : Sl (Sl (Int)))] [[], [(0, 161)], [], [], [], [], [(4, 165), (5, 166)], [(2, 163), (3, 164), (6, 167)], [(7, 168)], [(8, 169)], [(9, 170)]] (by kernel_rfl) (by rw [S.size]; kernel_rfl) (by kernel_rfl) (by kernel_rfl) (by kernel_rfl) rfl ⟨(stab_eqv _), (stab_eqv _), (stab_rep hR), stab_I, stab_I, stab_I, stab_I, (stab_rep hR), (stab_rep hR), (stab_rep hR), (stab_rep hR), trivial⟩ ?_ ?_
          ·
           refine RunAll.cons (eqv (.pointer (some ((⟨b_410, 0, .none⟩ : Addr).add (coff gf0 1))))) [] rfl rfl ?_ ?_
           ·intro W_ hW
            have S1 := S
            replace B_411 := B_411.step hW
            exact RPost.one (v := .pointer (some ((⟨b_410, 0, .none⟩ : Addr).add (coff gf0 1)))) S1 tys tys_ok rfl (by kernel_rfl) S.defers rfl (Below.refl _ _)
           refine RunAll.cons (eqv (v_420)) [(eqv (.pointer (some ((⟨b_410, 0, .none⟩ : Addr).add (coff gf0 1)))), 161)] rfl rfl ?_ ?_
           ·intro W_ hW
            have S1 := S
            intro v_488 hF_487; obtain rfl : .pointer (some ((⟨b_410, 0, .none⟩ : Addr).add (coff gf0 1))) = v_488 := Eq.symm hF_487
            replace S1 := S1.put (by decide : 161 < 184) (.pointer (some ((⟨b_410, 0, .none⟩ : Addr).add (coff gf0 1))))
            refine fill_nil S1 ?_; clear S1; intro a_ S1
            replace B_411 := B_411.step hW
            have S0 := S.defers; replace S := S1; clear S1
            refine w_go S rfl (op_load (t := .raw) (x := v_420) S rfl tyr23 rfl rfl rfl (RepAt.add 1 (RepAt.st (t := (.pair (.int .u16) .raw)) B_411.at_)) ?_)
            clear S; intro a v_489 R_490 S
            have q_ := (RepV.rawEq R_490).symm; clear R_490; subst q_
            refine wpList_nil ?_
            exact RPost.mk_ S rfl S0 rfl (Below.refl _ _)
           refine RunAll.cons (isRep (.sl (.int .u8)) (Kx K w.heap.size [v_420.ownBlock, some b_410, some b_5, some b_1]) x0) [] rfl rfl ?_ ?_
           ·intro W_ hW
            have S1 := S
            refine fill_nil S1 ?_; clear S1; intro a_ S1
            replace B_2 := B_2.step hW
            have S0 := S.defers; replace S := S1; clear S1
            refine w_go S rfl (op_load (t := (.sl (.int .u8))) (x := x0) S rfl ty28 rfl rfl rfl B_2.at_ ?_)
            clear S; intro a v_491 R_492 S
            refine wpList_nil ?_
            exact RPost.mk_ S rfl S0 R_492 (Below.refl _ _)
           refine RunAll.cons (isI .i64 t_437) [] rfl rfl ?_ ?_
           ·intro W_ hW
            have S1 := S
            exact RPost.one (v := .int .i64 t_437) S1 tys tys_ok rfl (by kernel_rfl) S.defers ⟨rfl, GR_439⟩ (Below.refl _ _)
           refine RunAll.cons (isI .i64 t_437) [] rfl rfl ?_ ?_
           ·intro W_ hW
            have S1 := S
            exact RPost.one (v := .int .i64 t_437) S1 tys tys_ok rfl (by kernel_rfl) S.defers ⟨rfl, GR_439⟩ (Below.refl _ _)
           refine RunAll.cons (isI .i64 t_443) [] rfl rfl ?_ ?_
           ·intro W_ hW
            have S1 := S
            exact RPost.one (v := .int .i64 t_443) S1 tys tys_ok rfl (by kernel_rfl) S.defers ⟨rfl, GR_445⟩ (Below.refl _ _)
           refine RunAll.cons (isI .i64 x_469) [(isI .i64 t_437, 165), (isI .i64 t_443, 166)] rfl rfl ?_ ?_
           ·intro W_ hW
            have S1 := S
            rintro _ ⟨rfl, hF_493⟩
            replace S1 := S1.put (by decide : 165 < 184) (.int .i64 t_437)
            rintro _ ⟨rfl, hF_495⟩
            replace S1 := S1.put (by decide : 166 < 184) (.int .i64 t_443)
            refine fill_nil S1 ?_; clear S1; intro a_ S1
            have S0 := S.defers; replace S := S1; clear S1
            refine w_go S rfl (op_arith S .i64 (t_437 + t_443) rfl (.inl rfl) rfl rfl rfl rfl ex_469 ?_)
            clear S; intro a S
            refine wpList_nil ?_
            exact RPost.mk_ S rfl S0 ⟨rfl, (ckI_some ex_469).2.1⟩ (Below.refl _ _)
           refine RunAll.cons (isRep (.sl (.int .u8)) (Kx K w.heap.size [v_420.ownBlock, some b_410, some b_5, some b_1]) s_472) [(isRep (.sl (.int .u8)) (Kx K w.heap.size [v_420.ownBlock, some b_410, some b_5, some b_1]) x0, 163), (isI .i64 t_437, 164), (isI .i64 x_469, 167)] rfl rfl ?_ ?_
           ·intro W_ hW
            have S1 := S
            intro v_498 hF_497; replace hF_497 : RepV _ _ _ _ _ := hF_497
            replace S1 := S1.put (by decide : 163 < 184) (v_498)
            rintro _ ⟨rfl, hF_499⟩
            replace S1 := S1.put (by decide : 164 < 184) (.int .i64 t_437)
            rintro _ ⟨rfl, hF_501⟩
            replace S1 := S1.put (by decide : 167 < 184) (.int .i64 x_469)
            refine fill_nil S1 ?_; clear S1; intro a_ S1
            have S0 := S.defers; replace S := S1; clear S1
            refine w_go S rfl (op_slice S rfl ty28 rfl rfl rfl hF_497 (.inr ⟨_, _, rfl, rfl⟩) (.inr ⟨_, _, rfl, rfl⟩) es_472 ?_)
            clear S; intro a v_503 R_504 S
            refine wpList_nil ?_
            exact RPost.mk_ S rfl S0 R_504 (Below.refl _ _)
           refine RunAll.cons (isRep (.sl (.int .u8)) (Kx K w.heap.size [v_420.ownBlock, some b_410, some b_5, some b_1]) t_473) [(isRep (.sl (.int .u8)) (Kx K w.heap.size [v_420.ownBlock, some b_410, some b_5, some b_1]) s_472, 168)] rfl rfl ?_ ?_
           ·intro W_ hW
            have S1 := S
            intro v_506 hF_505; replace hF_505 : RepV _ _ _ _ _ := hF_505
            replace S1 := S1.put (by decide : 168 < 184) (v_506)
            refine fill_nil S1 ?_; clear S1; intro a_ S1
            replace W := W.step hW
            have S0 := S.defers; replace S := S1; clear S1
            refine w_go S rfl (op_call (vs := [v_506]) S rfl cb26 rfl rfl rfl (c26 (Kx K w.heap.size [v_420.ownBlock, some b_410, some b_5, some b_1]) n W_ s_472 _ hF_505 et_473) ?_)
            rintro _ w_510 ⟨v_507, rfl, R_508, hb_509⟩; refine ⟨_, rfl, ?_⟩
            replace R_508 := Ow.pub0 R_508
            replace R_508 := RepV.back R_508 W
            clear S; intro a S
            refine wpList_nil ?_
            exact RPost.mk_ S rfl S0 R_508 (hb_509)
           refine RunAll.cons (isRep (.sl (.int .u8)) (Kx K w.heap.size [v_420.ownBlock, some b_410, some b_5, some b_1]) t_478) [(isRep (.sl (.int .u8)) (Kx K w.heap.size [v_420.ownBlock, some b_410, some b_5, some b_1]) t_473, 169)] rfl rfl ?_ ?_
           ·intro W_ hW
            have S1 := S
            intro v_512 hF_511; replace hF_511 : RepV _ _ _ _ _ := hF_511
            replace S1 := S1.put (by decide : 169 < 184) (v_512)
            refine fill_nil S1 ?_; clear S1; intro a_ S1
            replace W := W.step hW
            have S0 := S.defers; replace S := S1; clear S1
            refine w_go S rfl (op_call (vs := [v_512]) S rfl cb24 rfl rfl rfl (c24 (Kx K w.heap.size [v_420.ownBlock, some b_410, some b_5, some b_1]) n W_ t_473 _ hF_511 et_478) ?_)
            rintro _ w_516 ⟨v_513, rfl, R_514, hb_515⟩; refine ⟨_, rfl, ?_⟩
            replace R_514 := RepV.back R_514 W
            clear S; intro a S
            refine wpList_nil ?_
            exact RPost.mk_ S rfl S0 R_514 (hb_515)
           refine RunAll.cons (isRep (.sl (.sl (.int .u8))) (Kx K w.heap.size [v_420.ownBlock, some b_410, some b_5, some b_1]) (⟨[t_478], some 1⟩ : Sl (Sl (Int)))) [(isRep (.sl (.int .u8)) (Kx K w.heap.size [v_420.ownBlock, some b_410, some b_5, some b_1]) t_478, 170)] rfl rfl ?_ ?_
           ·intro W_ hW
            have S1 := S
            intro v_518 hF_517; replace hF_517 : RepV _ _ _ _ _ := hF_517
            replace S1 := S1.put (by decide : 170 < 184) (v_518)
            refine fill_nil S1 ?_; clear S1; intro a_ S1
            replace W := W.step hW
            have S0 := S.defers; replace S := S1; clear S1
            refine w_go S rfl (op_buildSlice (K := K) (e := (.sl (.int .u8))) (vs := [v_518]) (xs := [t_478]) S W rfl ty23 rfl rfl (by kernel_rfl) rfl rfl rfl rfl rfl ⟨hF_517, trivial⟩ ?_)
            clear S; intro a w_522 v_519 hb_521 R_520 S
            refine wpList_nil ?_
            exact RPost.mk_ S rfl S0 R_520 (hb_521)
           exact trivial
          intro w_523 hb_524
          refine EndE.some_ rfl ?_
          intro v_526 hF_525; obtain rfl : .pointer (some ((⟨b_410, 0, .none⟩ : Addr).add (coff gf0 1))) = v_526 := Eq.symm hF_525
          replace S := S.put (by decide : 161 < 184) (.pointer (some ((⟨b_410, 0, .none⟩ : Addr).add (coff gf0 1))))
          refine EndE.some_ rfl ?_
          intro v_528 hF_527; obtain rfl : v_420 = v_528 := Eq.symm hF_527
          replace S := S.put (by decide : 162 < 184) (v_420)
          refine EndE.some_ rfl ?_
          intro v_530 hF_529; replace hF_529 : RepV _ _ _ _ _ := hF_529
          replace S := S.put (by decide : 163 < 184) (v_530)
          refine EndE.some_ rfl ?_
          rintro _ ⟨rfl, hF_531⟩
          replace S := S.put (by decide : 164 < 184) (.int .i64 t_437)
          refine EndE.some_ rfl ?_
          rintro _ ⟨rfl, hF_533⟩
          replace S := S.put (by decide : 165 < 184) (.int .i64 t_437)
          refine EndE.some_ rfl ?_
          rintro _ ⟨rfl, hF_535⟩
          replace S := S.put (by decide : 166 < 184) (.int .i64 t_443)
          refine EndE.some_ rfl ?_
          rintro _ ⟨rfl, hF_537⟩
          replace S := S.put (by decide : 167 < 184) (.int .i64 x_469)
          refine EndE.some_ rfl ?_
          intro v_540 hF_539; replace hF_539 : RepV _ _ _ _ _ := hF_539
          replace S := S.put (by decide : 168 < 184) (v_540)
          refine EndE.some_ rfl ?_
          intro v_542 hF_541; replace hF_541 : RepV _ _ _ _ _ := hF_541
          replace S := S.put (by decide : 169 < 184) (v_542)
          refine EndE.some_ rfl ?_
          intro v_544 hF_543; replace hF_543 : RepV _ _ _ _ _ := hF_543
          replace S := S.put (by decide : 170 < 184) (v_544)
          refine EndE.some_ rfl ?_
          intro v_546 hF_545; replace hF_545 : RepV _ _ _ _ _ := hF_545
          replace S := S.put (by decide : 171 < 184) (v_546)
          refine endE_nil S ?_; clear S; intro a S
          replace B_2 := B_2.step hb_524
          replace B_6 := B_6.step hb_524
          replace B_411 := B_411.step hb_524
          replace O_421 := O_421.step hb_524
          replace W := W.step hb_524
          obtain ⟨l_547, el_547, hl_432⟩ := bindS hl_432
          refine w_go S rfl (op_append S W (E := 28) 0 rfl ty23 un23 by23 rfl rfl rfl rfl O_421 rfl hF_545 el_547 ?_)
          clear S; intro a w_549 v_548 A_550 O_551 S
          replace hF_529 : RepV (.sl (.int .u8)) w_549 (Kx K w.heap.size [v_548.ownBlock, some b_410, some b_5, some b_1]) v_530 x0 := hF_529.apd A_550 (i := 0) rfl
          replace hF_539 : RepV (.sl (.int .u8)) w_549 (Kx K w.heap.size [v_548.ownBlock, some b_410, some b_5, some b_1]) v_540 s_472 := hF_539.apd A_550 (i := 0) rfl
          replace hF_541 : RepV (.sl (.int .u8)) w_549 (Kx K w.heap.size [v_548.ownBlock, some b_410, some b_5, some b_1]) v_542 t_473 := hF_541.apd A_550 (i := 0) rfl
          replace hF_543 : RepV (.sl (.int .u8)) w_549 (Kx K w.heap.size [v_548.ownBlock, some b_410, some b_5, some b_1]) v_544 t_478 := hF_543.apd A_550 (i := 0) rfl
          replace hF_545 : RepV (.sl (.sl (.int .u8))) w_549 (Kx K w.heap.size [v_548.ownBlock, some b_410, some b_5, some b_1]) v_546 (⟨[t_478], some 1⟩ : Sl (Sl (Int))) := hF_545.apd A_550 (i := 0) rfl
          replace B_2 : Bx (.sl (.int .u8)) 28 w_549 (Kx K w.heap.size [v_548.ownBlock, some b_410, some b_5, some b_1]) b_1 x0 := B_2.apd W A_550 (i := 0) rfl (j := 3) rfl (by decide)
          replace B_6 : Bx (.st (.pair (.int .u16) .raw)) 25 w_549 (Kx K w.heap.size [v_548.ownBlock, some b_410, some b_5, some b_1]) b_5 (0, (.slice .none 0 0)) := B_6.apd W A_550 (i := 0) rfl (j := 2) rfl (by decide)
          replace B_411 : Bx (.st (.pair (.int .u16) .raw)) 25 w_549 (Kx K w.heap.size [v_548.ownBlock, some b_410, some b_5, some b_1]) b_410 (IntKind.wrap .u16 t_403, v_420) := B_411.apd W A_550 (i := 0) rfl (j := 1) rfl (by decide)
          replace W : Wd w w_549 [v_548.ownBlock, some b_410, some b_5, some b_1] := W.apd A_550 (i := 0) rfl
          replace O_551 : Ow (.sl (.int .u8)) 28 w_549 w.heap.size (Kx K w.heap.size [v_548.ownBlock, some b_410, some b_5, some b_1]) v_548 l_547 (capA .none l_547.length) := O_551
          refine wl_pureK (l' := [(173, .pointer (some ((⟨b_410, 0, .none⟩ : Addr).add (coff gf0 1)))), (172, v_548), (8, .int .i64 c_417), (7, pB b_410), (6, .int .i64 t_351), (5, .int .i64 t_23), (4, .func (.func 25) #[] #[pB b_1]), (2, pB b_5), (1, pB b_1)]) S tys tys_ok 1 [173, 172, 8, 7, 6, 5, 4, 2, 1] (by kernel_rfl) ?_
          clear S; intro a S
          refine w_go S rfl (op_store (t' := .raw) S rfl rfl tyr23 rfl (addr_add1 _ _) rfl B_411 (by simp) (Ln.st (Ln.comp 1)) O_551.raw ?_)
          intro w_552 hw_553 B_
          replace B_2 := B_2.wrote hw_553 (by simp) (W.bne (p := 3) (q := 1) (by decide) rfl rfl)
          replace B_6 := B_6.wrote hw_553 (by simp) (W.bne (p := 2) (q := 1) (by decide) rfl rfl)
          replace O_551 := O_551.wrote hw_553 (by simp) (W.one (p := 0) (q := 1) (by decide) rfl rfl)
          replace W := W.wrote hw_553 (by simp)
          replace B_411 : Bx (.st (.pair (.int .u16) .raw)) 25 w_552 (Kx K w.heap.size [v_548.ownBlock, some b_410, some b_5, some b_1]) b_410 (IntKind.wrap .u16 t_403, v_548) := B_; clear B_
          refine wpList_nil ?_
          refine blk_n ?_
          refine then_n ?_
          replace S := S.sub (l' := [(8, .int .i64 c_417), (7, pB b_410), (6, .int .i64 t_351), (5, .int .i64 t_23), (4, .func (.func 25) #[] #[pB b_1]), (2, pB b_5), (1, pB b_1)]) (by exact ⟨rfl, rfl, rfl, rfl, rfl, rfl, rfl, trivial⟩)
          refine wp_region_lit ?_
          refine wl_pure (l' := [(122, .int .i64 c_417), (8, .int .i64 c_417), (7, pB b_410), (6, .int .i64 t_351), (5, .int .i64 t_23), (4, .func (.func 25) #[] #[pB b_1]), (2, pB b_5), (1, pB b_1)]) S tys tys_ok 1 (by kernel_rfl) ?_
          clear S; intro a S
          obtain ⟨x_554, ex_554, hl_432⟩ := bindS hl_432
          refine w_go S rfl (op_arith S .i64 (c_417 + 4) rfl (.inl rfl) rfl rfl rfl rfl ex_554 ?_)
          clear S; intro a S
          refine wl_pure (l' := [(8, .int .i64 x_554), (123, .int .i64 x_554), (122, .int .i64 c_417), (8, .int .i64 c_417), (7, pB b_410), (6, .int .i64 t_351), (5, .int .i64 t_23), (4, .func (.func 25) #[] #[pB b_1]), (2, pB b_5), (1, pB b_1)]) S tys tys_ok 1 (by kernel_rfl) ?_
          clear S; intro a S
          refine wpList_nil ?_
          refine then_n ?_
          exact ⟨x_554, l_547, ⟨v_548, S.sub (by exact ⟨rfl, rfl, rfl, rfl, rfl, rfl, rfl, trivial⟩), W, (ckI_some ex_554).2.1, B_2, B_6, B_411, O_551.forget, hl_432⟩⟩
       ·intro hc
        rw [if_neg (Bool.eq_false_iff.1 hc)] at hl_432
        refine wp_exit ?_
        refine then_x ?_
        refine then_x ?_
        refine blk_hit ?_
        refine then_n ?_
        obtain rfl := Option.some.inj hl_432
        exact ⟨_, rfl, ⟨v_420, S.sub (by exact ⟨rfl, rfl, trivial⟩), W, B_2, B_6, B_411, O_421⟩⟩
    clear S W; rintro a w_555 ⟨s_428, rfl, v_429, S, W, B_2, B_6, B_411, O_430⟩
    replace h := lr_inl h; try dsimp only at h
    refine then_n ?_
    refine wp_seq ?_
    refine wp_seq ?_
    refine wp_region_lit ?_
    refine wl_pure (l' := [(174, .pointer (some ((⟨b_410, 0, .none⟩ : Addr).add (coff gf0 1)))), (2, pB b_5), (7, pB b_410)]) S tys tys_ok 1 (by kernel_rfl) ?_
    clear S; intro a S
    refine w_go S rfl (op_load (t := .raw) (x := v_429) S rfl tyr23 rfl rfl rfl (RepAt.add 1 (RepAt.st (t := (.pair (.int .u16) .raw)) B_411.at_)) ?_)
    clear S; intro a v_556 R_557 S
    have q_ := (RepV.rawEq R_557).symm; clear R_557; subst q_
    refine w_go S rfl (op_len (K := _) S rfl ty23 rfl rfl rfl O_430.read ?_)
    clear S; intro a G_558 S
    refine wl_pureK (l' := [(177, .bool (decide ((lenI (⟨s_428, .none⟩ : Sl (Sl (Int)))) > 64))), (2, pB b_5), (7, pB b_410)]) S tys tys_ok 1 [177, 2, 7] (by kernel_rfl) ?_
    clear S; intro a S
    refine wpList_nil ?_
    refine then_n ?_
    refine wp_cond_split (S.eval (show ev _ _ = some (.bool (decide ((lenI (⟨s_428, .none⟩ : Sl (Sl (Int)))) > 64))) from rfl)) ?_ ?_
    ·intro hc
     rw [if_pos hc] at h
     refine wp_seq ?_
     refine wp_region_lit ?_
     refine w_go S rfl (op_build (K := (Kx K w.heap.size [v_429.ownBlock, some b_410, some b_5, some b_1])) (f := (.pair (.int .u16) .raw)) (z0 := (0, (.slice .none 0 0))) (x := (0, (.slice .none 0 0))) (vs := []) S _ rfl tyw25_1 z25 (fun w K => ⟨[.int .u16 0], [.slice .none 0 0], rfl, ⟨rfl, by decide⟩, ⟨rfl, _, _, _, rfl⟩⟩) rfl rfl rfl [] rfl rfl ?_)
     clear S; intro a v_559 R_560 S
     refine w_go S rfl (op_store (t' := (.st (.pair (.int .u16) .raw))) S rfl rfl tyw25_1 rfl rfl rfl B_6 (by simp) Ln.whole R_560 ?_)
     intro w_561 hw_562 B_
     replace R_560 := R_560.wrote hw_562 (by simp)
     replace B_2 := B_2.wrote hw_562 (by simp) (W.bne (p := 3) (q := 2) (by decide) rfl rfl)
     replace B_411 := B_411.wrote hw_562 (by simp) (W.bne (p := 1) (q := 2) (by decide) rfl rfl)
     replace O_430 := O_430.wrote hw_562 (by simp) (W.one (p := 0) (q := 2) (by decide) rfl rfl)
     replace W := W.wrote hw_562 (by simp)
     replace B_6 : Bx (.st (.pair (.int .u16) .raw)) 25 w_561 (Kx K w.heap.size [v_429.ownBlock, some b_410, some b_5, some b_1]) b_5 (0, (.slice .none 0 0)) := B_; clear B_
     refine wl_pureK (l' := [(3, .int .i64 3), (2, pB b_5)]) S tys tys_ok 1 [3, 2] (by kernel_rfl) ?_
     clear S; intro a S
     refine wpList_nil ?_
     refine then_n ?_
     refine wp_ret ?_
     refine then_r ?_
     replace B_6 : Bx gt0 25 w_561 (Kx K w.heap.size [v_429.ownBlock, some b_410, some b_5, some b_1]) b_5 (0, (⟨[], some 0⟩ : Sl (Sl (Int)))) := Bx.unrawX (t' := gt0) (Lx.st (Lx.right Lx.here)) B_6 RepV.nil
     obtain ⟨v_563, hr_564, R_565⟩ := res_cell (P := Try.prog) (T := 25) (t := gt0) (x := (0, (⟨[], some 0⟩ : Sl (Sl (Int))))) S (s := 2) rfl ty25 B_6.at_
     obtain rfl := Option.some.inj h
     exact b_res2 S rfl hr_564 (res_tmp S rfl) ⟨_, _, rfl, R_565.out, (RepV.mkInt (by decide)), W.below⟩
    ·intro hc
     rw [if_neg (Bool.eq_false_iff.1 hc)] at h
     refine wp_skip ?_
     refine then_n ?_
     replace S := S.sub (l' := [(2, pB b_5), (7, pB b_410)]) (by exact ⟨rfl, rfl, trivial⟩)
     refine wp_seq ?_
     refine wp_region_lit ?_
     refine wl_pure (l' := [(179, .pointer (some ((⟨b_410, 0, .none⟩ : Addr).add (coff gf0 1)))), (2, pB b_5), (7, pB b_410)]) S tys tys_ok 1 (by kernel_rfl) ?_
     clear S; intro a S
     refine w_go S rfl (op_load (t := .raw) (x := v_429) S rfl tyr23 rfl rfl rfl (RepAt.add 1 (RepAt.st (t := (.pair (.int .u16) .raw)) B_411.at_)) ?_)
     clear S; intro a v_566 R_567 S
     have q_ := (RepV.rawEq R_567).symm; clear R_567; subst q_
     have R_568 : RepV (.sl (.sl (.int .u8))) w_555 (Kx K w.heap.size [some b_410, some b_5, some b_1]) v_429 (⟨s_428, .none⟩ : Sl (Sl (Int))) := O_430.pubAt W 0 rfl
     replace B_2 : Bx (.sl (.int .u8)) 28 w_555 (Kx K w.heap.size [some b_410, some b_5, some b_1]) b_1 x0 := B_2.lessAt 0
     replace B_6 : Bx (.st (.pair (.int .u16) .raw)) 25 w_555 (Kx K w.heap.size [some b_410, some b_5, some b_1]) b_5 (0, (.slice .none 0 0)) := B_6.lessAt 0
     replace B_411 : Bx (.st (.pair (.int .u16) .raw)) 25 w_555 (Kx K w.heap.size [some b_410, some b_5, some b_1]) b_410 (IntKind.wrap .u16 t_403, v_429) := B_411.lessAt 0
     replace W : Wd w w_555 [some b_410, some b_5, some b_1] := W.lessAt 0
     replace B_411 : Bx gt0 25 w_555 (Kx K w.heap.size [some b_410, some b_5, some b_1]) b_410 (IntKind.wrap .u16 t_403, (⟨s_428, .none⟩ : Sl (Sl (Int)))) := Bx.unrawX (t' := gt0) (Lx.st (Lx.right Lx.here)) B_411 R_568
     obtain ⟨t_569, et_569, h⟩ := bindS h
     refine w_go S rfl (op_call (vs := [v_429]) S rfl cb27 rfl rfl rfl (c27 (Kx K w.heap.size [some b_410, some b_5, some b_1]) n w_555 (⟨s_428, .none⟩ : Sl (Sl (Int))) _ R_568 et_569) ?_)
     rintro _ w_573 ⟨v_570, rfl, R_571, hb_572⟩; refine ⟨_, rfl, ?_⟩
     replace R_571 := RepV.back R_571 W
     clear S; intro a S
     replace R_568 := R_568.step hb_572
     replace B_2 := B_2.step hb_572
     replace B_6 := B_6.step hb_572
     replace B_411 := B_411.step hb_572
     replace W := W.step hb_572
     refine wl_pure (l' := [(182, .pointer (some ((⟨b_410, 0, .none⟩ : Addr).add (coff gf0 1)))), (181, v_570), (180, v_429), (179, .pointer (some ((⟨b_410, 0, .none⟩ : Addr).add (coff gf0 1)))), (2, pB b_5), (7, pB b_410)]) S tys tys_ok 1 (by kernel_rfl) ?_
     clear S; intro a S
     refine w_go S rfl (op_store (t' := (.sl (.sl (.int .u8)))) S rfl rfl ty23 rfl (addr_add1 _ _) rfl B_411 (by simp) (Ln.st (Ln.comp 1)) R_571 ?_)
     intro w_574 hw_575 B_
     replace R_568 := R_568.wrote hw_575 (by simp)
     replace R_571 := R_571.wrote hw_575 (by simp)
     replace B_2 := B_2.wrote hw_575 (by simp) (W.bne (p := 2) (q := 0) (by decide) rfl rfl)
     replace B_6 := B_6.wrote hw_575 (by simp) (W.bne (p := 1) (q := 0) (by decide) rfl rfl)
     replace W := W.wrote hw_575 (by simp)
     replace B_411 : Bx gt0 25 w_574 (Kx K w.heap.size [some b_410, some b_5, some b_1]) b_410 (IntKind.wrap .u16 t_403, t_569) := B_; clear B_
     refine wpList_nil ?_
     refine then_n ?_
     replace S := S.sub (l' := [(2, pB b_5), (7, pB b_410)]) (by exact ⟨rfl, rfl, trivial⟩)
     refine wp_seq ?_
     refine wp_region_lit ?_
     refine w_go S rfl (op_load (t := gt0) (x := (IntKind.wrap .u16 t_403, t_569)) S rfl ty25 rfl rfl rfl B_411.at_ ?_)
     clear S; intro a v_576 R_577 S
     replace B_6 : Bx gt0 25 w_574 (Kx K w.heap.size [some b_410, some b_5, some b_1]) b_5 (0, (⟨[], some 0⟩ : Sl (Sl (Int)))) := Bx.unrawX (t' := gt0) (Lx.st (Lx.right Lx.here)) B_6 RepV.nil
     refine w_go S rfl (op_store (t' := gt0) S rfl rfl ty25 rfl rfl rfl B_6 (by simp) Ln.whole R_577 ?_)
     intro w_578 hw_579 B_
     replace R_577 := R_577.wrote hw_579 (by simp)
     replace B_2 := B_2.wrote hw_579 (by simp) (W.bne (p := 2) (q := 1) (by decide) rfl rfl)
     replace B_411 := B_411.wrote hw_579 (by simp) (W.bne (p := 0) (q := 1) (by decide) rfl rfl)
     replace W := W.wrote hw_579 (by simp)
     replace B_6 : Bx gt0 25 w_578 (Kx K w.heap.size [some b_410, some b_5, some b_1]) b_5 (IntKind.wrap .u16 t_403, t_569) := B_; clear B_
     refine wl_pure (l' := [(3, .int .i64 0), (183, v_576), (2, pB b_5), (7, pB b_410)]) S tys tys_ok 1 (by kernel_rfl) ?_
     clear S; intro a S
     refine wpList_nil ?_
     refine then_n ?_
     replace S := S.sub (l' := [(3, .int .i64 0), (2, pB b_5)]) (by exact ⟨rfl, rfl, trivial⟩)
     refine wp_ret ?_
     obtain ⟨v_580, hr_581, R_582⟩ := res_cell (P := Try.prog) (T := 25) (t := gt0) (x := (IntKind.wrap .u16 t_403, t_569)) S (s := 2) rfl ty25 B_6.at_
     obtain rfl := Option.some.inj h
     exact b_res2 S rfl hr_581 (res_tmp S rfl) ⟨_, _, rfl, R_582.out, (RepV.mkInt (by decide)), W.below⟩
theorem cb12 : callB Try.prog 12 = true := by kernel_rfl
def p13_l1 (n : Nat) (x0 : Sl (Sl (Int))) (x1 : Sl (Sl (Int))) : Nat → (Int) → Option ((Unit) ⊕ ((Bool)))
 | 0, _ => .none
 | m + 1, c_3 => if (decide (c_3 < (lenI x0))) then ((idx x0.xs c_3).bind fun y_13 => (idx x1.xs c_3).bind fun y_19 => if (!(decide (y_13.xs = y_19.xs))) then (some (.inr false)) else (ckI .i64 (c_3 + 1)).bind fun x_91 => p13_l1 n x0 x1 m x_91) else some (.inl ())
def p13 (n : Nat) (x0 : Sl (Sl (Int))) (x1 : Sl (Sl (Int))) : Option ((Bool)) :=
 if ((lenI x0) != (lenI x1)) then (some false) else (p13_l1 n x0 x1 n 0).bind fun (y_7 : (Unit) ⊕ ((Bool))) => lrK y_7 some fun (s_8 : Unit) => some true
set_option maxHeartbeats 4000000 in
set_option maxRecDepth 100000 in
/-- plugboard/plugboardlaw43.same -/
theorem c13 (K : Nat → Prop) (n : Nat) (w : World) (x0 : Sl (Sl (Int))) (v0 : Value) (R0 : RepV (.sl (.sl (.int .u8))) w K v0 x0) (x1 : Sl (Sl (Int))) (v1 : Value) (R1 : RepV (.sl (.sl (.int .u8))) w K v1 x1) {r : (Bool)} (h : p13 n x0 x1 = some r) :
  Calls Try.prog 13 #[v0, v1] w (Ret1 .bool w (Kx K w.heap.size []) r) := by
 refine enter (args := [v0, v1]) Try.func13 rfl 28 rfl rfl fun a S => ?_
 have W := Wd.start w
 replace R0 := R0.arg
 replace R1 := R1.arg
 unfold p13 at h
 replace S : St 28 a [(0, v0), (1, v1)] := S
 refine wp_seq ?_
 refine wp_region_lit ?_
 refine wl_pure (l' := [(4, .bool false), (0, v0), (1, v1)]) S tys tys_ok 1 (by kernel_rfl) ?_
 clear S; intro a S
 refine wpList_nil ?_
 refine then_n ?_
 replace S := S.sub (l' := [(0, v0), (1, v1)]) (by exact ⟨rfl, rfl, trivial⟩)
 refine wp_seq ?_
 refine wp_seq ?_
 refine wp_region_lit ?_
 refine wl_pure (l' := [(6, v0), (0, v0), (1, v1)]) S tys tys_ok 1 (by kernel_rfl) ?_
 clear S; intro a S
 refine w_go S rfl (op_len (K := _) S rfl ty23 rfl rfl rfl R0 ?_)
 clear S; intro a G_1 S
 refine wl_pure (l' := [(8, v1), (7, .int .i64 (lenI x0)), (6, v0), (0, v0), (1, v1)]) S tys tys_ok 1 (by kernel_rfl) ?_
 clear S; intro a S
 refine w_go S rfl (op_len (K := _) S rfl ty23 rfl rfl rfl R1 ?_)
 clear S; intro a G_2 S
 refine wl_pureK (l' := [(10, .bool ((lenI x0) != (lenI x1))), (0, v0), (1, v1)]) S tys tys_ok 1 [10, 0, 1] (by kernel_rfl) ?_
 clear S; intro a S
 refine wpList_nil ?_
 refine then_n ?_
 refine wp_cond_split (S.eval (show ev _ _ = some (.bool ((lenI x0) != (lenI x1))) from rfl)) ?_ ?_
 ·intro hc
  rw [if_pos hc] at h
  refine wp_seq ?_
  refine wp_region_lit ?_
  refine wl_pureK (l' := [(4, .bool false)]) S tys tys_ok 1 [4] (by kernel_rfl) ?_
  clear S; intro a S
  refine wpList_nil ?_
  refine then_n ?_
  refine wp_ret ?_
  refine then_r ?_
  obtain rfl := Option.some.inj h
  exact b_ret1 S rfl rfl ⟨_, rfl, RepV.mkBool, W.below⟩
 ·intro hc
  rw [if_neg (Bool.eq_false_iff.1 hc)] at h
  refine wp_skip ?_
  refine then_n ?_
  replace S := S.sub (l' := [(0, v0), (1, v1)]) (by exact ⟨rfl, rfl, trivial⟩)
  refine wp_seq ?_
  refine wp_seq ?_
  refine wp_region_lit ?_
  refine wl_pure (l' := [(5, .int .i64 0), (0, v0), (1, v1)]) S tys tys_ok 1 (by kernel_rfl) ?_
  clear S; intro a S
  refine wpList_nil ?_
  refine then_n ?_
  obtain ⟨y_7, ey_7, h⟩ := bindS h
  refine wp_cut_ (fun a_ w_ => ∃ s_8 : Unit, y_7 = .inl s_8 ∧ (St 28 a_ [] ∧ Wd w w_ [])) ?_ ?_
  ·refine wp_block ?_
   refine wp_loop_n (fun m_ a_ w_ => ∃ (c_3 : Int) , St 28 a_ [(5, .int .i64 c_3), (0, v0), (1, v1)] ∧ Wd w w_ [] ∧ InR .i64 c_3 ∧ RepV (.sl (.sl (.int .u8))) w_ (Kx K w.heap.size []) v0 x0 ∧ RepV (.sl (.sl (.int .u8))) w_ (Kx K w.heap.size []) v1 x1 ∧ p13_l1 n x0 x1 m_ c_3 = some y_7) n ?_ ?_
   ·skip
    exact ⟨0, ⟨S.sub (by exact ⟨rfl, rfl, rfl, trivial⟩), W, (by decide), R0, R1, ey_7⟩⟩
   ·clear S W; rintro m_9 a w_11 ⟨c_3, S, W, G_4, R0, R1, hl_10⟩
    cases m_9 with
    | zero => exact absurd hl_10 (by simp [p13_l1])
    | succ m_9 =>
     refine ⟨m_9, rfl, ?_⟩
     rw [p13_l1] at hl_10
     refine wp_seq ?_
     refine wp_seq ?_
     refine wp_region_lit ?_
     refine wl_pure (l' := [(12, v0), (11, .int .i64 c_3), (5, .int .i64 c_3), (0, v0), (1, v1)]) S tys tys_ok 2 (by kernel_rfl) ?_
     clear S; intro a S
     refine w_go S rfl (op_len (K := _) S rfl ty23 rfl rfl rfl R0 ?_)
     clear S; intro a G_12 S
     refine wl_pureK (l' := [(14, .bool (decide (c_3 < (lenI x0)))), (5, .int .i64 c_3), (0, v0), (1, v1)]) S tys tys_ok 1 [14, 5, 0, 1] (by kernel_rfl) ?_
     clear S; intro a S
     refine wpList_nil ?_
     refine then_n ?_
     refine wp_cond_split (S.eval (show ev _ _ = some (.bool (decide (c_3 < (lenI x0)))) from rfl)) ?_ ?_
     ·intro hc
      rw [if_pos hc] at hl_10
      refine wp_skip ?_
      refine then_n ?_
      replace S := S.sub (l' := [(5, .int .i64 c_3), (0, v0), (1, v1)]) (by exact ⟨rfl, rfl, rfl, trivial⟩)
      refine wp_seq ?_
      refine wp_block ?_
      refine wp_seq ?_
      obtain ⟨y_13, ey_13, hl_10⟩ := bindS hl_10
      obtain ⟨y_19, ey_19, hl_10⟩ := bindS hl_10
      have hR : Rel (Kx K w.heap.size []) Bl := Bl.rel _
      refine wp_region_all hR [isRep (.sl (.sl (.int .u8))) (Kx K w.heap.size []) x0, isI .i64 c_3, isEl (.sl (.int .u8)) (Kx K w.heap.size []) y_13, isRep (.sl (.int .u8)) (Kx K w.heap.size []) y_13, isS y_13.xs, isRep (.sl (.sl (.int .u8))) (Kx K w.heap.size []) x1, isI .i64 c_3, isEl (.sl (.int .u8)) (Kx K w.heap.size []) y_19, isRep (.sl (.int .u8)) (Kx K w.heap.size []) y_19, isS y_19.xs, eqv (.bool (!(decide (y_13.xs = y_19.xs))))] [[], [], [(0, 17), (1, 18)], [(2, 19)], [(3, 20)], [], [], [(5, 22), (6, 23)], [(7, 24)], [(8, 25)], [(4, 21), (9, 26)]] (by kernel_rfl) (by rw [S.size]; kernel_rfl) (by kernel_rfl) (by kernel_rfl) rfl ⟨(stab_rep hR), stab_I, (stab_el hR), (stab_rep hR), stab_S, (stab_rep hR), stab_I, (stab_el hR), (stab_rep hR), stab_S, (stab_eqv _), trivial⟩ ?_ ?_
      ·
       refine RunAll.cons (isRep (.sl (.sl (.int .u8))) (Kx K w.heap.size []) x0) [] rfl rfl ?_ ?_
       ·intro W_ hW
        have S1 := S
        replace R0 := R0.step hW
        exact RPost.one (v := v0) S1 tys tys_ok rfl (by kernel_rfl) S.defers R0 (Below.refl _ _)
       refine RunAll.cons (isI .i64 c_3) [] rfl rfl ?_ ?_
       ·intro W_ hW
        have S1 := S
        exact RPost.one (v := .int .i64 c_3) S1 tys tys_ok rfl (by kernel_rfl) S.defers ⟨rfl, G_4⟩ (Below.refl _ _)
       refine RunAll.cons (isEl (.sl (.int .u8)) (Kx K w.heap.size []) y_13) [(isRep (.sl (.sl (.int .u8))) (Kx K w.heap.size []) x0, 17), (isI .i64 c_3, 18)] rfl rfl ?_ ?_
       ·intro W_ hW
        have S1 := S
        intro v_26 hF_25; replace hF_25 : RepV _ _ _ _ _ := hF_25
        replace S1 := S1.put (by decide : 17 < 28) (v_26)
        rintro _ ⟨rfl, hF_27⟩
        replace S1 := S1.put (by decide : 18 < 28) (.int .i64 c_3)
        refine fill_nil S1 ?_; clear S1; intro a_ S1
        replace W := W.step hW
        have S0 := S.defers; replace S := S1; clear S1
        refine w_go S rfl (op_indexAddr S rfl ty23 rfl rfl rfl hF_25 rfl ey_13 ?_)
        clear S; intro a p_29 R_30 H_31 S
        refine wpList_nil ?_
        exact RPost.mk_ S rfl S0 ⟨_, rfl, R_30, H_31⟩ (Below.refl _ _)
       refine RunAll.cons (isRep (.sl (.int .u8)) (Kx K w.heap.size []) y_13) [(isEl (.sl (.int .u8)) (Kx K w.heap.size []) y_13, 19)] rfl rfl ?_ ?_
       ·intro W_ hW
        have S1 := S
        rintro _ ⟨p_34, rfl, R_35, H_36⟩
        replace S1 := S1.put (by decide : 19 < 28) (.pointer (some p_34))
        refine fill_nil S1 ?_; clear S1; intro a_ S1
        have S0 := S.defers; replace S := S1; clear S1
        refine w_go S rfl (op_load (t := (.sl (.int .u8))) (x := y_13) S rfl ty28 rfl rfl rfl R_35 ?_)
        clear S; intro a v_37 R_38 S
        refine wpList_nil ?_
        exact RPost.mk_ S rfl S0 R_38 (Below.refl _ _)
       refine RunAll.cons (isS y_13.xs) [(isRep (.sl (.int .u8)) (Kx K w.heap.size []) y_13, 20)] rfl rfl ?_ ?_
       ·intro W_ hW
        have S1 := S
        intro v_40 hF_39; replace hF_39 : RepV _ _ _ _ _ := hF_39
        replace S1 := S1.put (by decide : 20 < 28) (v_40)
        refine fill_nil S1 ?_; clear S1; intro a_ S1
        replace W := W.step hW
        have S0 := S.defers; replace S := S1; clear S1
        refine w_go S rfl (op_str (K := _) S rfl ty28 ty9 rfl rfl rfl hF_39 ?_)
        clear S; intro a S
        refine wpList_nil ?_
        exact RPost.mk_ S rfl S0 ⟨rfl, hF_39.byt⟩ (Below.refl _ _)
       refine RunAll.cons (isRep (.sl (.sl (.int .u8))) (Kx K w.heap.size []) x1) [] rfl rfl ?_ ?_
       ·intro W_ hW
        have S1 := S
        replace R1 := R1.step hW
        exact RPost.one (v := v1) S1 tys tys_ok rfl (by kernel_rfl) S.defers R1 (Below.refl _ _)
       refine RunAll.cons (isI .i64 c_3) [] rfl rfl ?_ ?_
       ·intro W_ hW
        have S1 := S
        exact RPost.one (v := .int .i64 c_3) S1 tys tys_ok rfl (by kernel_rfl) S.defers ⟨rfl, G_4⟩ (Below.refl _ _)
       refine RunAll.cons (isEl (.sl (.int .u8)) (Kx K w.heap.size []) y_19) [(isRep (.sl (.sl (.int .u8))) (Kx K w.heap.size []) x1, 22), (isI .i64 c_3, 23)] rfl rfl ?_ ?_
       ·intro W_ hW
        have S1 := S
        intro v_42 hF_41; replace hF_41 : RepV _ _ _ _ _ := hF_41
        replace S1 := S1.put (by decide : 22 < 28) (v_42)
        rintro _ ⟨rfl, hF_43⟩
        replace S1 := S1.put (by decide : 23 < 28) (.int .i64 c_3)
        refine fill_nil S1 ?_; clear S1; intro a_ S1
        replace W := W.step hW
        have S0 := S.defers; replace S := S1; clear S1
        refine w_go S rfl (op_indexAddr S rfl ty23 rfl rfl rfl hF_41 rfl ey_19 ?_)
        clear S; intro a p_45 R_46 H_47 S
        refine wpList_nil ?_
        exact RPost.mk_ S rfl S0 ⟨_, rfl, R_46, H_47⟩ (Below.refl _ _)
       refine RunAll.cons (isRep (.sl (.int .u8)) (Kx K w.heap.size []) y_19) [(isEl (.sl (.int .u8)) (Kx K w.heap.size []) y_19, 24)] rfl rfl ?_ ?_
       ·intro W_ hW
        have S1 := S
        rintro _ ⟨p_50, rfl, R_51, H_52⟩
        replace S1 := S1.put (by decide : 24 < 28) (.pointer (some p_50))
        refine fill_nil S1 ?_; clear S1; intro a_ S1
        have S0 := S.defers; replace S := S1; clear S1
        refine w_go S rfl (op_load (t := (.sl (.int .u8))) (x := y_19) S rfl ty28 rfl rfl rfl R_51 ?_)
        clear S; intro a v_53 R_54 S
        refine wpList_nil ?_
        exact RPost.mk_ S rfl S0 R_54 (Below.refl _ _)
       refine RunAll.cons (isS y_19.xs) [(isRep (.sl (.int .u8)) (Kx K w.heap.size []) y_19, 25)] rfl rfl ?_ ?_
       ·intro W_ hW
        have S1 := S
        intro v_56 hF_55; replace hF_55 : RepV _ _ _ _ _ := hF_55
        replace S1 := S1.put (by decide : 25 < 28) (v_56)
        refine fill_nil S1 ?_; clear S1; intro a_ S1
        replace W := W.step hW
        have S0 := S.defers; replace S := S1; clear S1
        refine w_go S rfl (op_str (K := _) S rfl ty28 ty9 rfl rfl rfl hF_55 ?_)
        clear S; intro a S
        refine wpList_nil ?_
        exact RPost.mk_ S rfl S0 ⟨rfl, hF_55.byt⟩ (Below.refl _ _)
       refine RunAll.cons (eqv (.bool (!(decide (y_13.xs = y_19.xs))))) [(isS y_13.xs, 21), (isS y_19.xs, 26)] rfl rfl ?_ ?_
       ·intro W_ hW
        have S1 := S
        rintro _ ⟨rfl, hF_57⟩
        replace S1 := S1.put (by decide : 21 < 28) (.string (strOfNums y_13.xs))
        rintro _ ⟨rfl, hF_59⟩
        replace S1 := S1.put (by decide : 26 < 28) (.string (strOfNums y_19.xs))
        refine fill_nil S1 ?_; clear S1; intro a_ S1
        have S0 := S.defers; replace S := S1; clear S1
        refine w_go S rfl (op_strne S rfl rfl rfl rfl rfl (hF_57).1 (hF_59).1 ?_)
        clear S; intro a S
        refine wpList_nil ?_
        exact RPost.mk_ S rfl S0 rfl (Below.refl _ _)
       exact trivial
      intro w_61 hb_62
      refine EndE.some_ rfl ?_
      intro v_64 hF_63; replace hF_63 : RepV _ _ _ _ _ := hF_63
      replace S := S.put (by decide : 17 < 28) (v_64)
      refine EndE.some_ rfl ?_
      rintro _ ⟨rfl, hF_65⟩
      replace S := S.put (by decide : 18 < 28) (.int .i64 c_3)
      refine EndE.some_ rfl ?_
      rintro _ ⟨p_69, rfl, R_70, H_71⟩
      replace S := S.put (by decide : 19 < 28) (.pointer (some p_69))
      refine EndE.some_ rfl ?_
      intro v_73 hF_72; replace hF_72 : RepV _ _ _ _ _ := hF_72
      replace S := S.put (by decide : 20 < 28) (v_73)
      refine EndE.some_ rfl ?_
      rintro _ ⟨rfl, hF_74⟩
      replace S := S.put (by decide : 21 < 28) (.string (strOfNums y_13.xs))
      refine EndE.some_ rfl ?_
      intro v_77 hF_76; replace hF_76 : RepV _ _ _ _ _ := hF_76
      replace S := S.put (by decide : 22 < 28) (v_77)
      refine EndE.some_ rfl ?_
      rintro _ ⟨rfl, hF_78⟩
      replace S := S.put (by decide : 23 < 28) (.int .i64 c_3)
      refine EndE.some_ rfl ?_
      rintro _ ⟨p_82, rfl, R_83, H_84⟩
      replace S := S.put (by decide : 24 < 28) (.pointer (some p_82))
      refine EndE.some_ rfl ?_
      intro v_86 hF_85; replace hF_85 : RepV _ _ _ _ _ := hF_85
      replace S := S.put (by decide : 25 < 28) (v_86)
      refine EndE.some_ rfl ?_
      rintro _ ⟨rfl, hF_87⟩
      replace S := S.put (by decide : 26 < 28) (.string (strOfNums y_19.xs))
      refine EndE.some_ rfl ?_
      intro v_90 hF_89; obtain rfl : .bool (!(decide (y_13.xs = y_19.xs))) = v_90 := Eq.symm hF_89
      replace S := S.put (by decide : 27 < 28) (.bool (!(decide (y_13.xs = y_19.xs))))
      refine endE_nil S ?_; clear S; intro a S
      replace R0 := R0.step hb_62
      replace R1 := R1.step hb_62
      replace W := W.step hb_62
      refine then_n ?_
      replace S := S.sub (l' := [(27, .bool (!(decide (y_13.xs = y_19.xs)))), (5, .int .i64 c_3), (0, v0), (1, v1)]) (by exact ⟨rfl, rfl, rfl, rfl, trivial⟩)
      refine wp_cond_split (S.eval (show ev _ _ = some (.bool (!(decide (y_13.xs = y_19.xs)))) from rfl)) ?_ ?_
      ·intro hc
       rw [if_pos hc] at hl_10
       refine wp_seq ?_
       refine wp_region_lit ?_
       refine wl_pureK (l' := [(4, .bool false)]) S tys tys_ok 1 [4] (by kernel_rfl) ?_
       clear S; intro a S
       refine wpList_nil ?_
       refine then_n ?_
       refine wp_ret ?_
       refine blk_r ?_
       refine then_r ?_
       refine then_r ?_
       refine blk_r ?_
       refine then_r ?_
       refine then_r ?_
       obtain rfl := Option.some.inj hl_10
       obtain rfl := lr_inr h
       exact b_ret1 S rfl rfl ⟨_, rfl, RepV.mkBool, W.below⟩
      ·intro hc
       rw [if_neg (Bool.eq_false_iff.1 hc)] at hl_10
       refine wp_skip ?_
       refine blk_n ?_
       refine then_n ?_
       replace S := S.sub (l' := [(5, .int .i64 c_3), (0, v0), (1, v1)]) (by exact ⟨rfl, rfl, rfl, trivial⟩)
       refine wp_region_lit ?_
       refine wl_pure (l' := [(15, .int .i64 c_3), (5, .int .i64 c_3), (0, v0), (1, v1)]) S tys tys_ok 1 (by kernel_rfl) ?_
       clear S; intro a S
       obtain ⟨x_91, ex_91, hl_10⟩ := bindS hl_10
       refine w_go S rfl (op_arith S .i64 (c_3 + 1) rfl (.inl rfl) rfl rfl rfl rfl ex_91 ?_)
       clear S; intro a S
       refine wl_pure (l' := [(5, .int .i64 x_91), (16, .int .i64 x_91), (15, .int .i64 c_3), (5, .int .i64 c_3), (0, v0), (1, v1)]) S tys tys_ok 1 (by kernel_rfl) ?_
       clear S; intro a S
       refine wpList_nil ?_
       refine then_n ?_
       exact ⟨x_91, ⟨S.sub (by exact ⟨rfl, rfl, rfl, trivial⟩), W, (ckI_some ex_91).2.1, R0, R1, hl_10⟩⟩
     ·intro hc
      rw [if_neg (Bool.eq_false_iff.1 hc)] at hl_10
      refine wp_exit ?_
      refine then_x ?_
      refine then_x ?_
      refine blk_hit ?_
      refine then_n ?_
      obtain rfl := Option.some.inj hl_10
      exact ⟨_, rfl, ⟨S.sub trivial, W⟩⟩
  clear S W; rintro a w_92 ⟨s_8, rfl, S, W⟩
  replace h := lr_inl h; try dsimp only at h
  refine then_n ?_
  refine wp_seq ?_
  refine wp_region_lit ?_
  refine wl_pure (l' := [(4, .bool true)]) S tys tys_ok 1 (by kernel_rfl) ?_
  clear S; intro a S
  refine wpList_nil ?_
  refine then_n ?_
  refine wp_ret ?_
  obtain rfl := Option.some.inj h
  exact b_ret1 S rfl rfl ⟨_, rfl, RepV.mkBool, W.below⟩
theorem cb13 : callB Try.prog 13 = true := by kernel_rfl
def p14 (n : Nat) (x0 : Sl (Int)) (x1 : Int) : Option ((Int)) :=
 (idx x0.xs x1).bind fun y_1 =>
 (ckI .i64 (x1 + 1)).bind fun x_7 =>
 (idx x0.xs x_7).bind fun y_8 =>
 (ckI .i64 (256 * y_8)).bind fun x_14 =>
 (ckI .i64 (y_1 + x_14)).bind fun x_15 =>
 some x_15
set_option maxHeartbeats 4000000 in
set_option maxRecDepth 100000 in
/-- plugboard/plugboardlaw43.number -/
theorem c14 (K : Nat → Prop) (n : Nat) (w : World) (x0 : Sl (Int)) (v0 : Value) (R0 : RepV (.sl (.int .u8)) w K v0 x0) (x1 : Int) (G1 : InR .i64 x1) {r : (Int)} (h : p14 n x0 x1 = some r) :
  Calls Try.prog 14 #[v0, .int .i64 x1] w (Ret1 (.int .i64) w (Kx K w.heap.size []) r) := by
 refine enter (args := [v0, .int .i64 x1]) Try.func14 rfl 18 rfl rfl fun a S => ?_
 have W := Wd.start w
 replace R0 := R0.arg
 unfold p14 at h
 replace S : St 18 a [(0, v0), (1, .int .i64 x1)] := S
 refine wp_seq ?_
 refine wp_region_lit ?_
 refine wl_pure (l' := [(4, .int .i64 0), (0, v0), (1, .int .i64 x1)]) S tys tys_ok 1 (by kernel_rfl) ?_
 clear S; intro a S
 refine wpList_nil ?_
 refine then_n ?_
 replace S := S.sub (l' := [(0, v0), (1, .int .i64 x1)]) (by exact ⟨rfl, rfl, trivial⟩)
 refine wp_seq ?_
 obtain ⟨y_1, ey_1, h⟩ := bindS h
 obtain ⟨x_7, ex_7, h⟩ := bindS h
 obtain ⟨y_8, ey_8, h⟩ := bindS h
 obtain ⟨x_14, ex_14, h⟩ := bindS h
 obtain ⟨x_15, ex_15, h⟩ := bindS h
 have hR : Rel (Kx K w.heap.size []) Bl := Bl.rel _
 refine wp_region_all hR [isRep (.sl (.int .u8)) (Kx K w.heap.size []) x0, isI .i64 x1, isEl (.int .u8) (Kx K w.heap.size []) y_1, isI .u8 y_1, isI .i64 y_1, isRep (.sl (.int .u8)) (Kx K w.heap.size []) x0, isI .i64 x1, isI .i64 x_7, isEl (.int .u8) (Kx K w.heap.size []) y_8, isI .u8 y_8, isI .i64 y_8, isI .i64 x_14, isI .i64 x_15, isI .i64 x_15] [[], [], [(0, 5), (1, 6)], [(2, 7)], [(3, 8)], [], [], [(6, 11)], [(5, 10), (7, 12)], [(8, 13)], [(9, 14)], [(10, 15)], [(4, 9), (11, 16)], [(12, 17)]] (by kernel_rfl) (by rw [S.size]; kernel_rfl) (by kernel_rfl) (by kernel_rfl) rfl ⟨(stab_rep hR), stab_I, (stab_el hR), stab_I, stab_I, (stab_rep hR), stab_I, stab_I, (stab_el hR), stab_I, stab_I, stab_I, stab_I, stab_I, trivial⟩ ?_ ?_
 ·
  refine RunAll.cons (isRep (.sl (.int .u8)) (Kx K w.heap.size []) x0) [] rfl rfl ?_ ?_
  ·intro W_ hW
   have S1 := S
   replace R0 := R0.step hW
   exact RPost.one (v := v0) S1 tys tys_ok rfl (by kernel_rfl) S.defers R0 (Below.refl _ _)
  refine RunAll.cons (isI .i64 x1) [] rfl rfl ?_ ?_
  ·intro W_ hW
   have S1 := S
   exact RPost.one (v := .int .i64 x1) S1 tys tys_ok rfl (by kernel_rfl) S.defers ⟨rfl, G1⟩ (Below.refl _ _)
  refine RunAll.cons (isEl (.int .u8) (Kx K w.heap.size []) y_1) [(isRep (.sl (.int .u8)) (Kx K w.heap.size []) x0, 5), (isI .i64 x1, 6)] rfl rfl ?_ ?_
  ·intro W_ hW
   have S1 := S
   intro v_17 hF_16; replace hF_16 : RepV _ _ _ _ _ := hF_16
   replace S1 := S1.put (by decide : 5 < 18) (v_17)
   rintro _ ⟨rfl, hF_18⟩
   replace S1 := S1.put (by decide : 6 < 18) (.int .i64 x1)
   refine fill_nil S1 ?_; clear S1; intro a_ S1
   replace W := W.step hW
   have S0 := S.defers; replace S := S1; clear S1
   refine w_go S rfl (op_indexAddr S rfl ty28 rfl rfl rfl hF_16 rfl ey_1 ?_)
   clear S; intro a p_20 R_21 H_22 S
   refine wpList_nil ?_
   exact RPost.mk_ S rfl S0 ⟨_, rfl, R_21, H_22⟩ (Below.refl _ _)
  refine RunAll.cons (isI .u8 y_1) [(isEl (.int .u8) (Kx K w.heap.size []) y_1, 7)] rfl rfl ?_ ?_
  ·intro W_ hW
   have S1 := S
   rintro _ ⟨p_25, rfl, R_26, H_27⟩
   replace S1 := S1.put (by decide : 7 < 18) (.pointer (some p_25))
   refine fill_nil S1 ?_; clear S1; intro a_ S1
   have S0 := S.defers; replace S := S1; clear S1
   refine w_go S rfl (op_load (t := (.int .u8)) (x := y_1) S rfl ty5 rfl rfl rfl R_26 ?_)
   clear S; intro a v_28 R_29 S
   obtain ⟨rfl, GR_29⟩ := RepV.int R_29
   refine wpList_nil ?_
   exact RPost.mk_ S rfl S0 ⟨rfl, GR_29⟩ (Below.refl _ _)
  refine RunAll.cons (isI .i64 y_1) [(isI .u8 y_1, 8)] rfl rfl ?_ ?_
  ·intro W_ hW
   have S1 := S
   rintro _ ⟨rfl, hF_30⟩
   replace S1 := S1.put (by decide : 8 < 18) (.int .u8 y_1)
   refine fill_nil S1 ?_; clear S1; intro a_ S1
   replace W := W.step hW
   have S0 := S.defers; replace S := S1; clear S1
   refine w_go S rfl (op_conv S .i64 .bool .bool rfl ty5 ty3 rfl rfl rfl (widen hF_30 (by decide)).1 ?_)
   clear S; intro a S
   refine wpList_nil ?_
   exact RPost.mk_ S rfl S0 ⟨rfl, (widen hF_30 (by decide)).2⟩ (Below.refl _ _)
  refine RunAll.cons (isRep (.sl (.int .u8)) (Kx K w.heap.size []) x0) [] rfl rfl ?_ ?_
  ·intro W_ hW
   have S1 := S
   replace R0 := R0.step hW
   exact RPost.one (v := v0) S1 tys tys_ok rfl (by kernel_rfl) S.defers R0 (Below.refl _ _)
  refine RunAll.cons (isI .i64 x1) [] rfl rfl ?_ ?_
  ·intro W_ hW
   have S1 := S
   exact RPost.one (v := .int .i64 x1) S1 tys tys_ok rfl (by kernel_rfl) S.defers ⟨rfl, G1⟩ (Below.refl _ _)
  refine RunAll.cons (isI .i64 x_7) [(isI .i64 x1, 11)] rfl rfl ?_ ?_
  ·intro W_ hW
   have S1 := S
   rintro _ ⟨rfl, hF_32⟩
   replace S1 := S1.put (by decide : 11 < 18) (.int .i64 x1)
   refine fill_nil S1 ?_; clear S1; intro a_ S1
   have S0 := S.defers; replace S := S1; clear S1
   refine w_go S rfl (op_arith S .i64 (x1 + 1) rfl (.inl rfl) rfl rfl rfl rfl ex_7 ?_)
   clear S; intro a S
   refine wpList_nil ?_
   exact RPost.mk_ S rfl S0 ⟨rfl, (ckI_some ex_7).2.1⟩ (Below.refl _ _)
  refine RunAll.cons (isEl (.int .u8) (Kx K w.heap.size []) y_8) [(isRep (.sl (.int .u8)) (Kx K w.heap.size []) x0, 10), (isI .i64 x_7, 12)] rfl rfl ?_ ?_
  ·intro W_ hW
   have S1 := S
   intro v_35 hF_34; replace hF_34 : RepV _ _ _ _ _ := hF_34
   replace S1 := S1.put (by decide : 10 < 18) (v_35)
   rintro _ ⟨rfl, hF_36⟩
   replace S1 := S1.put (by decide : 12 < 18) (.int .i64 x_7)
   refine fill_nil S1 ?_; clear S1; intro a_ S1
   replace W := W.step hW
   have S0 := S.defers; replace S := S1; clear S1
   refine w_go S rfl (op_indexAddr S rfl ty28 rfl rfl rfl hF_34 rfl ey_8 ?_)
   clear S; intro a p_38 R_39 H_40 S
   refine wpList_nil ?_
   exact RPost.mk_ S rfl S0 ⟨_, rfl, R_39, H_40⟩ (Below.refl _ _)
  refine RunAll.cons (isI .u8 y_8) [(isEl (.int .u8) (Kx K w.heap.size []) y_8, 13)] rfl rfl ?_ ?_
  ·intro W_ hW
   have S1 := S
   rintro _ ⟨p_43, rfl, R_44, H_45⟩
   replace S1 := S1.put (by decide : 13 < 18) (.pointer (some p_43))
   refine fill_nil S1 ?_; clear S1; intro a_ S1
   have S0 := S.defers; replace S := S1; clear S1
   refine w_go S rfl (op_load (t := (.int .u8)) (x := y_8) S rfl ty5 rfl rfl rfl R_44 ?_)
   clear S; intro a v_46 R_47 S
   obtain ⟨rfl, GR_47⟩ := RepV.int R_47
   refine wpList_nil ?_
   exact RPost.mk_ S rfl S0 ⟨rfl, GR_47⟩ (Below.refl _ _)
  refine RunAll.cons (isI .i64 y_8) [(isI .u8 y_8, 14)] rfl rfl ?_ ?_
  ·intro W_ hW
   have S1 := S
   rintro _ ⟨rfl, hF_48⟩
   replace S1 := S1.put (by decide : 14 < 18) (.int .u8 y_8)
   refine fill_nil S1 ?_; clear S1; intro a_ S1
   replace W := W.step hW
   have S0 := S.defers; replace S := S1; clear S1
   refine w_go S rfl (op_conv S .i64 .bool .bool rfl ty5 ty3 rfl rfl rfl (widen hF_48 (by decide)).1 ?_)
   clear S; intro a S
   refine wpList_nil ?_
   exact RPost.mk_ S rfl S0 ⟨rfl, (widen hF_48 (by decide)).2⟩ (Below.refl _ _)
  refine RunAll.cons (isI .i64 x_14) [(isI .i64 y_8, 15)] rfl rfl ?_ ?_
  ·intro W_ hW
   have S1 := S
   rintro _ ⟨rfl, hF_50⟩
   replace S1 := S1.put (by decide : 15 < 18) (.int .i64 y_8)
   refine fill_nil S1 ?_; clear S1; intro a_ S1
   have S0 := S.defers; replace S := S1; clear S1
   refine w_go S rfl (op_arith S .i64 (256 * y_8) rfl (.inr (.inr rfl)) rfl rfl rfl rfl ex_14 ?_)
   clear S; intro a S
   refine wpList_nil ?_
   exact RPost.mk_ S rfl S0 ⟨rfl, (ckI_some ex_14).2.1⟩ (Below.refl _ _)
  refine RunAll.cons (isI .i64 x_15) [(isI .i64 y_1, 9), (isI .i64 x_14, 16)] rfl rfl ?_ ?_
  ·intro W_ hW
   have S1 := S
   rintro _ ⟨rfl, hF_52⟩
   replace S1 := S1.put (by decide : 9 < 18) (.int .i64 y_1)
   rintro _ ⟨rfl, hF_54⟩
   replace S1 := S1.put (by decide : 16 < 18) (.int .i64 x_14)
   refine fill_nil S1 ?_; clear S1; intro a_ S1
   have S0 := S.defers; replace S := S1; clear S1
   refine w_go S rfl (op_arith S .i64 (y_1 + x_14) rfl (.inl rfl) rfl rfl rfl rfl ex_15 ?_)
   clear S; intro a S
   refine wpList_nil ?_
   exact RPost.mk_ S rfl S0 ⟨rfl, (ckI_some ex_15).2.1⟩ (Below.refl _ _)
  refine RunAll.cons (isI .i64 x_15) [(isI .i64 x_15, 17)] rfl rfl ?_ ?_
  ·intro W_ hW
   have S1 := S
   rintro _ ⟨rfl, hF_56⟩
   replace S1 := S1.put (by decide : 17 < 18) (.int .i64 x_15)
   exact RPost.one (v := .int .i64 x_15) S1 tys tys_ok rfl (by kernel_rfl) S.defers ⟨rfl, hF_56⟩ (Below.refl _ _)
  exact trivial
 intro w_58 hb_59
 refine EndE.some_ rfl ?_
 intro v_61 hF_60; replace hF_60 : RepV _ _ _ _ _ := hF_60
 replace S := S.put (by decide : 5 < 18) (v_61)
 refine EndE.some_ rfl ?_
 rintro _ ⟨rfl, hF_62⟩
 replace S := S.put (by decide : 6 < 18) (.int .i64 x1)
 refine EndE.some_ rfl ?_
 rintro _ ⟨p_66, rfl, R_67, H_68⟩
 replace S := S.put (by decide : 7 < 18) (.pointer (some p_66))
 refine EndE.some_ rfl ?_
 rintro _ ⟨rfl, hF_69⟩
 replace S := S.put (by decide : 8 < 18) (.int .u8 y_1)
 refine EndE.some_ rfl ?_
 rintro _ ⟨rfl, hF_71⟩
 replace S := S.put (by decide : 9 < 18) (.int .i64 y_1)
 refine EndE.some_ rfl ?_
 intro v_74 hF_73; replace hF_73 : RepV _ _ _ _ _ := hF_73
 replace S := S.put (by decide : 10 < 18) (v_74)
 refine EndE.some_ rfl ?_
 rintro _ ⟨rfl, hF_75⟩
 replace S := S.put (by decide : 11 < 18) (.int .i64 x1)
 refine EndE.some_ rfl ?_
 rintro _ ⟨rfl, hF_77⟩
 replace S := S.put (by decide : 12 < 18) (.int .i64 x_7)
 refine EndE.some_ rfl ?_
 rintro _ ⟨p_81, rfl, R_82, H_83⟩
 replace S := S.put (by decide : 13 < 18) (.pointer (some p_81))
 refine EndE.some_ rfl ?_
 rintro _ ⟨rfl, hF_84⟩
 replace S := S.put (by decide : 14 < 18) (.int .u8 y_8)
 refine EndE.some_ rfl ?_
 rintro _ ⟨rfl, hF_86⟩
 replace S := S.put (by decide : 15 < 18) (.int .i64 y_8)
 refine EndE.some_ rfl ?_
 rintro _ ⟨rfl, hF_88⟩
 replace S := S.put (by decide : 16 < 18) (.int .i64 x_14)
 refine EndE.some_ rfl ?_
 rintro _ ⟨rfl, hF_90⟩
 replace S := S.put (by decide : 17 < 18) (.int .i64 x_15)
 refine EndE.some_ rfl ?_
 rintro _ ⟨rfl, hF_92⟩
 replace S := S.put (by decide : 4 < 18) (.int .i64 x_15)
 refine endE_nil S ?_; clear S; intro a S
 replace R0 := R0.step hb_59
 replace W := W.step hb_59
 refine then_n ?_
 replace S := S.sub (l' := [(4, .int .i64 x_15)]) (by exact ⟨rfl, trivial⟩)
 refine wp_ret ?_
 obtain rfl := Option.some.inj h
 exact b_ret1 S rfl rfl ⟨_, rfl, (RepV.mkInt hF_92), W.below⟩
theorem cb14 : callB Try.prog 14 = true := by kernel_rfl
def p15_l1 (n : Nat) (x0 : Sl (Int)) (t_24 : (Int)) (t_49 : (Int)) : Nat → (Int) → (List (Sl (Int))) → Option (((List (Sl (Int)))) ⊕ ((Sl (Sl (Int))) × (Int)))
 | 0, _, _ => .none
 | m + 1, c_67, c_69 => (ckI .i64 (c_67 + 4)).bind fun x_85 => if (decide (x_85 < t_49)) then ((ckI .i64 (t_24 + c_67)).bind fun x_86 => (p14 n x0 x_86).bind fun t_87 => (ckI .i64 (t_24 + c_67)).bind fun x_92 => (ckI .i64 (x_92 + 2)).bind fun x_93 => (p14 n x0 x_93).bind fun t_94 => (ckI .i64 (t_87 + t_94)).bind fun x_99 => if (x_99 == 0) then (some (.inl c_69)) else (if (decide (t_87 < 12)) = false then (remI .i64 t_87 4).bind fun x_101 => some (x_101 != 0) else some true).bind fun q_100 => (if q_100 = false then some (t_94 == 0) else some true).bind fun q_102 => (if q_102 = false then some (decide (t_94 > 1514)) else some true).bind fun q_103 => (if q_103 = false then (ckI .i64 (t_87 + t_94)).bind fun x_105 => some (decide (x_105 > (lenI x0))) else some true).bind fun q_104 => if q_104 then (some (.inr ((⟨([] : List (Sl (Int))), some 0⟩ : Sl (Sl (Int))), 4))) else (ckI .i64 (t_87 + t_94)).bind fun x_108 => (slI x0 t_87 x_108).bind fun s_111 => (appI c_69 ([s_111])).bind fun l_116 => (ckI .i64 (c_67 + 4)).bind fun x_121 => p15_l1 n x0 t_24 t_49 m x_121 l_116) else some (.inl c_69)
def p15 (n : Nat) (x0 : Sl (Int)) : Option ((Sl (Sl (Int))) × (Int)) :=
 (if (decide ((lenI x0) < 12)) = false then some (decide ((lenI x0) > 16384)) else some true).bind fun q_2 =>
 (if q_2 = false then (slI x0 0 4).bind fun s_7 => some (!(decide (s_7.xs = [78, 67, 77, 72]))) else some true).bind fun q_4 =>
 (if q_4 = false then (p14 n x0 4).bind fun t_9 => some (t_9 != 12) else some true).bind fun q_8 =>
 (if q_8 = false then (p14 n x0 8).bind fun t_16 => some (t_16 != (lenI x0)) else some true).bind fun q_15 =>
 if q_15 then (some ((⟨([] : List (Sl (Int))), some 0⟩ : Sl (Sl (Int))), 4)) else (p14 n x0 10).bind fun t_24 => (if (decide (t_24 < 12)) = false then (remI .i64 t_24 4).bind fun x_30 => some (x_30 != 0) else some true).bind fun q_29 => (if q_29 = false then (ckI .i64 (t_24 + 12)).bind fun x_32 => some (decide (x_32 > (lenI x0))) else some true).bind fun q_31 => (if q_31 = false then (ckI .i64 (t_24 + 4)).bind fun x_35 => (slI x0 t_24 x_35).bind fun s_38 => some (!(decide (s_38.xs = [78, 67, 77, 48]))) else some true).bind fun q_34 => (if q_34 = false then (ckI .i64 (t_24 + 6)).bind fun x_40 => (p14 n x0 x_40).bind fun t_41 => some (t_41 != 0) else some true).bind fun q_39 => if q_39 then (some ((⟨([] : List (Sl (Int))), some 0⟩ : Sl (Sl (Int))), 4)) else (ckI .i64 (t_24 + 4)).bind fun x_48 => (p14 n x0 x_48).bind fun t_49 => (if (decide (t_49 < 12)) = false then (remI .i64 t_49 4).bind fun x_55 => some (x_55 != 0) else some true).bind fun q_54 => (if q_54 = false then (ckI .i64 (t_24 + t_49)).bind fun x_57 => some (decide (x_57 > (lenI x0))) else some true).bind fun q_56 => (if q_56 = false then (ckI .i64 (t_24 + t_49)).bind fun x_60 => (ckI .i64 (x_60 - 4)).bind fun x_61 => (ckI .i64 (t_24 + t_49)).bind fun x_62 => (slI x0 x_61 x_62).bind fun s_65 => some (!(decide (s_65.xs = [0, 0, 0, 0]))) else some true).bind fun q_59 => if q_59 then (some ((⟨([] : List (Sl (Int))), some 0⟩ : Sl (Sl (Int))), 4)) else (p15_l1 n x0 t_24 t_49 n 8 []).bind fun (y_77 : ((List (Sl (Int)))) ⊕ ((Sl (Sl (Int))) × (Int))) => lrK y_77 some fun (s_78 : (List (Sl (Int)))) => if (decide ((lenI (⟨s_78, .none⟩ : Sl (Sl (Int)))) > 64)) then (some ((⟨([] : List (Sl (Int))), some 0⟩ : Sl (Sl (Int))), 3)) else some ((⟨s_78, .none⟩ : Sl (Sl (Int))), 0)
set_option maxHeartbeats 4000000 in
set_option maxRecDepth 100000 in
/-- plugboard/plugboardlaw43.decode -/
theorem c15 (K : Nat → Prop) (n : Nat) (w : World) (x0 : Sl (Int)) (v0 : Value) (R0 : RepV (.sl (.int .u8)) w K v0 x0) {r : (Sl (Sl (Int))) × (Int)} (h : p15 n x0 = some r) :
  Calls Try.prog 15 #[v0] w (fun e_ w_ => ∃ v0_ v1_ : Value, e_ = .returned (.tuple #[v0_, v1_]) ∧ Ow (.sl (.int .u8)) 28 w_ w.heap.size (Kx K w.heap.size [v0_.ownBlock]) v0_ r.1.xs r.1.cap ∧ RepV (.int .i64) w_ (Kx K w.heap.size [v0_.ownBlock]) v1_ r.2 ∧ Below w.heap.size w w_) := by
 refine enter (args := [v0]) Try.func15 rfl 157 rfl rfl fun a S => ?_
 have W := Wd.start w
 replace R0 := R0.arg
 unfold p15 at h
 replace S : St 157 a [(0, v0)] := S
 refine wp_seq ?_
 refine wp_region_lit ?_
 refine wl_pure (l' := [(3, .int .i64 0), (2, .slice .none 0 0), (0, v0)]) S tys tys_ok 2 (by kernel_rfl) ?_
 clear S; intro a S
 refine wpList_nil ?_
 refine then_n ?_
 replace S := S.sub (l' := [(0, v0)]) (by exact ⟨rfl, trivial⟩)
 refine wp_seq ?_
 refine wp_seq ?_
 refine wp_region_lit ?_
 refine wl_pure (l' := [(10, v0), (0, v0)]) S tys tys_ok 1 (by kernel_rfl) ?_
 clear S; intro a S
 refine w_go S rfl (op_len (K := _) S rfl ty28 rfl rfl rfl R0 ?_)
 clear S; intro a G_1 S
 refine wl_pureK (l' := [(13, .bool (decide ((lenI x0) < 12))), (0, v0)]) S tys tys_ok 2 [13, 0] (by kernel_rfl) ?_
 clear S; intro a S
 obtain ⟨q_2, eq_2, h⟩ := bindS h
 refine seg 4 (fun a_ w_ => w = w_ ∧ St 157 a_ [(17, .bool q_2), (0, v0)]) ?_ ?_
 ·by_cases hc : (decide ((lenI x0) < 12)) = false
  ·rw [if_pos hc] at eq_2; rw [hc] at S
   refine wl_pure (l' := [(14, v0), (13, .bool false), (0, v0)]) S tys tys_ok 1 (by kernel_rfl) ?_
   clear S; intro a S
   refine w_go S rfl (op_len (K := _) S rfl ty28 rfl rfl rfl R0 ?_)
   clear S; intro a G_3 S
   refine wl_pureK (l' := [(17, .bool (decide ((lenI x0) > 16384))), (0, v0)]) S tys tys_ok 2 [17, 0] (by kernel_rfl) ?_
   clear S; intro a S
   obtain rfl := Option.some.inj eq_2
   exact ⟨rfl, S.sub (by exact ⟨rfl, rfl, trivial⟩)⟩
  ·rw [if_neg hc] at eq_2; rw [show (decide ((lenI x0) < 12)) = true from (by simpa using hc)] at S
   refine wl_pureK (l' := [(17, .bool true), (0, v0)]) S tys tys_ok 4 [17, 0] (by kernel_rfl) ?_
   clear S; intro a S
   obtain rfl := Option.some.inj eq_2
   exact ⟨rfl, S.sub (by exact ⟨rfl, rfl, trivial⟩)⟩
 clear S eq_2; rintro a _ ⟨rfl, S⟩
 refine wl_pure (l' := [(18, .bool q_2), (17, .bool q_2), (0, v0)]) S tys tys_ok 1 (by kernel_rfl) ?_
 clear S; intro a S
 obtain ⟨q_4, eq_4, h⟩ := bindS h
 refine seg 5 (fun a_ w_ => w = w_ ∧ St 157 a_ [(23, .bool q_4), (0, v0)]) ?_ ?_
 ·by_cases hc : q_2 = false
  ·rw [if_pos hc] at eq_4; rw [hc] at S
   refine wl_pure (l' := [(19, v0), (18, .bool false), (17, .bool false), (0, v0)]) S tys tys_ok 1 (by kernel_rfl) ?_
   clear S; intro a S
   obtain ⟨s_7, es_7, eq_4⟩ := bindS eq_4
   refine w_go S rfl (op_slice S rfl ty28 rfl rfl rfl R0 (.inl ⟨rfl, rfl⟩) (.inr ⟨_, _, rfl, rfl⟩) es_7 ?_)
   clear S; intro a v_5 R_6 S
   refine w_go S rfl (op_str (K := _) S rfl ty28 ty9 rfl rfl rfl R_6 ?_)
   clear S; intro a S
   refine w_go S rfl (op_strne S rfl rfl rfl rfl (by kernel_rfl) (R_6.byt).1 ((strG ([78, 67, 77, 72]) (by decide) (by decide))).1 ?_)
   clear S; intro a S
   refine wl_pureK (l' := [(23, .bool (!(decide (s_7.xs = [78, 67, 77, 72])))), (0, v0)]) S tys tys_ok 1 [23, 0] (by kernel_rfl) ?_
   clear S; intro a S
   obtain rfl := Option.some.inj eq_4
   exact ⟨rfl, S.sub (by exact ⟨rfl, rfl, trivial⟩)⟩
  ·rw [if_neg hc] at eq_4; rw [show q_2 = true from (by simpa using hc)] at S
   refine wl_pureK (l' := [(23, .bool true), (0, v0)]) S tys tys_ok 5 [23, 0] (by kernel_rfl) ?_
   clear S; intro a S
   obtain rfl := Option.some.inj eq_4
   exact ⟨rfl, S.sub (by exact ⟨rfl, rfl, trivial⟩)⟩
 clear S eq_4; rintro a _ ⟨rfl, S⟩
 refine wl_pure (l' := [(24, .bool q_4), (23, .bool q_4), (0, v0)]) S tys tys_ok 1 (by kernel_rfl) ?_
 clear S; intro a S
 obtain ⟨q_8, eq_8, h⟩ := bindS h
 refine seg 4 (fun a_ w_ => St 157 a_ [(28, .bool q_8), (0, v0)] ∧ Wd w w_ [] ∧ RepV (.sl (.int .u8)) w_ (Kx K w.heap.size []) v0 x0) ?_ ?_
 ·by_cases hc : q_4 = false
  ·rw [if_pos hc] at eq_8; rw [hc] at S
   refine wl_pure (l' := [(25, v0), (24, .bool false), (23, .bool false), (0, v0)]) S tys tys_ok 1 (by kernel_rfl) ?_
   clear S; intro a S
   obtain ⟨t_9, et_9, eq_8⟩ := bindS eq_8
   refine w_go S rfl (op_call (vs := [v0, .int .i64 4]) S rfl cb14 rfl rfl rfl (c14 (Kx K w.heap.size []) n w x0 _ R0 4 (by decide) et_9) ?_)
   rintro _ w_13 ⟨v_10, rfl, R_11, hb_12⟩; refine ⟨_, rfl, ?_⟩
   replace R_11 := RepV.back R_11 W
   clear S; intro a S
   replace R0 := R0.step hb_12
   replace W := W.step hb_12
   obtain ⟨rfl, GR_11⟩ := RepV.int R_11
   refine wl_pureK (l' := [(28, .bool (t_9 != 12)), (0, v0)]) S tys tys_ok 2 [28, 0] (by kernel_rfl) ?_
   clear S; intro a S
   obtain rfl := Option.some.inj eq_8
   exact ⟨S.sub (by exact ⟨rfl, rfl, trivial⟩), W, R0⟩
  ·rw [if_neg hc] at eq_8; rw [show q_4 = true from (by simpa using hc)] at S
   refine wl_pureK (l' := [(28, .bool true), (0, v0)]) S tys tys_ok 4 [28, 0] (by kernel_rfl) ?_
   clear S; intro a S
   obtain rfl := Option.some.inj eq_8
   exact ⟨S.sub (by exact ⟨rfl, rfl, trivial⟩), W, R0⟩
 clear S W eq_8; rintro a w_14 ⟨S, W, R0⟩
 refine wl_pure (l' := [(29, .bool q_8), (28, .bool q_8), (0, v0)]) S tys tys_ok 1 (by kernel_rfl) ?_
 clear S; intro a S
 obtain ⟨q_15, eq_15, h⟩ := bindS h
 refine seg 6 (fun a_ w_ => St 157 a_ [(35, .bool q_15), (0, v0)] ∧ Wd w w_ [] ∧ RepV (.sl (.int .u8)) w_ (Kx K w.heap.size []) v0 x0) ?_ ?_
 ·by_cases hc : q_8 = false
  ·rw [if_pos hc] at eq_15; rw [hc] at S
   refine wl_pure (l' := [(30, v0), (29, .bool false), (28, .bool false), (0, v0)]) S tys tys_ok 1 (by kernel_rfl) ?_
   clear S; intro a S
   obtain ⟨t_16, et_16, eq_15⟩ := bindS eq_15
   refine w_go S rfl (op_call (vs := [v0, .int .i64 8]) S rfl cb14 rfl rfl rfl (c14 (Kx K w.heap.size []) n w_14 x0 _ R0 8 (by decide) et_16) ?_)
   rintro _ w_20 ⟨v_17, rfl, R_18, hb_19⟩; refine ⟨_, rfl, ?_⟩
   replace R_18 := RepV.back R_18 W
   clear S; intro a S
   replace R0 := R0.step hb_19
   replace W := W.step hb_19
   obtain ⟨rfl, GR_18⟩ := RepV.int R_18
   refine wl_pure (l' := [(32, v0), (31, .int .i64 t_16), (30, v0), (29, .bool false), (28, .bool false), (0, v0)]) S tys tys_ok 1 (by kernel_rfl) ?_
   clear S; intro a S
   refine w_go S rfl (op_len (K := _) S rfl ty28 rfl rfl rfl R0 ?_)
   clear S; intro a G_21 S
   refine wl_pureK (l' := [(35, .bool (t_16 != (lenI x0))), (0, v0)]) S tys tys_ok 2 [35, 0] (by kernel_rfl) ?_
   clear S; intro a S
   obtain rfl := Option.some.inj eq_15
   exact ⟨S.sub (by exact ⟨rfl, rfl, trivial⟩), W, R0⟩
  ·rw [if_neg hc] at eq_15; rw [show q_8 = true from (by simpa using hc)] at S
   refine wl_pureK (l' := [(35, .bool true), (0, v0)]) S tys tys_ok 6 [35, 0] (by kernel_rfl) ?_
   clear S; intro a S
   obtain rfl := Option.some.inj eq_15
   exact ⟨S.sub (by exact ⟨rfl, rfl, trivial⟩), W, R0⟩
 clear S W eq_15; rintro a w_22 ⟨S, W, R0⟩
 refine wpList_nil ?_
 refine then_n ?_
 refine wp_cond_split (S.eval (show ev _ _ = some (.bool q_15) from rfl)) ?_ ?_
 ·intro hc
  rw [if_pos hc] at h
  refine wp_seq ?_
  refine wp_region_lit ?_
  refine wl_pure (l' := [(3, .int .i64 4), (2, .slice .none 0 0), (35, .bool q_15), (0, v0)]) S tys tys_ok 2 (by kernel_rfl) ?_
  clear S; intro a S
  refine wpList_nil ?_
  refine then_n ?_
  replace S := S.sub (l' := [(3, .int .i64 4), (2, .slice .none 0 0)]) (by exact ⟨rfl, rfl, trivial⟩)
  refine wp_ret ?_
  refine then_r ?_
  replace W := W.more
  have O_23 : Ow (.sl (.int .u8)) 28 w_22 w.heap.size (Kx K w.heap.size [.none]) (.slice .none 0 0) ([] : List (Sl (Int))) (some 0) := Ow.nil
  obtain rfl := Option.some.inj h
  exact b_ret2 S rfl rfl rfl ⟨_, _, rfl, (O_23.lessO 0 rfl), (RepV.mkInt (by decide)), W.below⟩
 ·intro hc
  rw [if_neg (Bool.eq_false_iff.1 hc)] at h
  refine wp_skip ?_
  refine then_n ?_
  replace S := S.sub (l' := [(0, v0)]) (by exact ⟨rfl, trivial⟩)
  refine wp_seq ?_
  refine wp_region_lit ?_
  refine wl_pure (l' := [(36, v0), (0, v0)]) S tys tys_ok 1 (by kernel_rfl) ?_
  clear S; intro a S
  obtain ⟨t_24, et_24, h⟩ := bindS h
  refine w_go S rfl (op_call (vs := [v0, .int .i64 10]) S rfl cb14 rfl rfl rfl (c14 (Kx K w.heap.size []) n w_22 x0 _ R0 10 (by decide) et_24) ?_)
  rintro _ w_28 ⟨v_25, rfl, R_26, hb_27⟩; refine ⟨_, rfl, ?_⟩
  replace R_26 := RepV.back R_26 W
  clear S; intro a S
  replace R0 := R0.step hb_27
  replace W := W.step hb_27
  obtain ⟨rfl, GR_26⟩ := RepV.int R_26
  refine wl_pure (l' := [(4, .int .i64 t_24), (37, .int .i64 t_24), (36, v0), (0, v0)]) S tys tys_ok 1 (by kernel_rfl) ?_
  clear S; intro a S
  refine wpList_nil ?_
  refine then_n ?_
  replace S := S.sub (l' := [(4, .int .i64 t_24), (0, v0)]) (by exact ⟨rfl, rfl, trivial⟩)
  refine wp_seq ?_
  refine wp_seq ?_
  refine wp_region_lit ?_
  refine wl_pure (l' := [(40, .bool (decide (t_24 < 12))), (39, .bool (decide (t_24 < 12))), (38, .int .i64 t_24), (4, .int .i64 t_24), (0, v0)]) S tys tys_ok 3 (by kernel_rfl) ?_
  clear S; intro a S
  obtain ⟨q_29, eq_29, h⟩ := bindS h
  refine seg 4 (fun a_ w_ => w_28 = w_ ∧ St 157 a_ [(44, .bool q_29), (4, .int .i64 t_24), (0, v0)]) ?_ ?_
  ·by_cases hc : (decide (t_24 < 12)) = false
   ·rw [if_pos hc] at eq_29; rw [hc] at S
    refine wl_pure (l' := [(41, .int .i64 t_24), (40, .bool false), (39, .bool false), (38, .int .i64 t_24), (4, .int .i64 t_24), (0, v0)]) S tys tys_ok 1 (by kernel_rfl) ?_
    clear S; intro a S
    obtain ⟨x_30, ex_30, eq_29⟩ := bindS eq_29
    refine w_go S rfl (op_rem S .i64 rfl rfl rfl rfl rfl ex_30 ?_)
    clear S; intro a S
    refine wl_pureK (l' := [(44, .bool (x_30 != 0)), (4, .int .i64 t_24), (0, v0)]) S tys tys_ok 2 [44, 4, 0] (by kernel_rfl) ?_
    clear S; intro a S
    obtain rfl := Option.some.inj eq_29
    exact ⟨rfl, S.sub (by exact ⟨rfl, rfl, rfl, trivial⟩)⟩
   ·rw [if_neg hc] at eq_29; rw [show (decide (t_24 < 12)) = true from (by simpa using hc)] at S
    refine wl_pureK (l' := [(44, .bool true), (4, .int .i64 t_24), (0, v0)]) S tys tys_ok 4 [44, 4, 0] (by kernel_rfl) ?_
    clear S; intro a S
    obtain rfl := Option.some.inj eq_29
    exact ⟨rfl, S.sub (by exact ⟨rfl, rfl, rfl, trivial⟩)⟩
  clear S eq_29; rintro a _ ⟨rfl, S⟩
  refine wl_pure (l' := [(45, .bool q_29), (44, .bool q_29), (4, .int .i64 t_24), (0, v0)]) S tys tys_ok 1 (by kernel_rfl) ?_
  clear S; intro a S
  obtain ⟨q_31, eq_31, h⟩ := bindS h
  refine seg 6 (fun a_ w_ => w_28 = w_ ∧ St 157 a_ [(51, .bool q_31), (4, .int .i64 t_24), (0, v0)]) ?_ ?_
  ·by_cases hc : q_29 = false
   ·rw [if_pos hc] at eq_31; rw [hc] at S
    refine wl_pure (l' := [(46, .int .i64 t_24), (45, .bool false), (44, .bool false), (4, .int .i64 t_24), (0, v0)]) S tys tys_ok 1 (by kernel_rfl) ?_
    clear S; intro a S
    obtain ⟨x_32, ex_32, eq_31⟩ := bindS eq_31
    refine w_go S rfl (op_arith S .i64 (t_24 + 12) rfl (.inl rfl) rfl rfl rfl rfl ex_32 ?_)
    clear S; intro a S
    refine wl_pure (l' := [(48, v0), (47, .int .i64 x_32), (46, .int .i64 t_24), (45, .bool false), (44, .bool false), (4, .int .i64 t_24), (0, v0)]) S tys tys_ok 1 (by kernel_rfl) ?_
    clear S; intro a S
    refine w_go S rfl (op_len (K := _) S rfl ty28 rfl rfl rfl R0 ?_)
    clear S; intro a G_33 S
    refine wl_pureK (l' := [(51, .bool (decide (x_32 > (lenI x0)))), (4, .int .i64 t_24), (0, v0)]) S tys tys_ok 2 [51, 4, 0] (by kernel_rfl) ?_
    clear S; intro a S
    obtain rfl := Option.some.inj eq_31
    exact ⟨rfl, S.sub (by exact ⟨rfl, rfl, rfl, trivial⟩)⟩
   ·rw [if_neg hc] at eq_31; rw [show q_29 = true from (by simpa using hc)] at S
    refine wl_pureK (l' := [(51, .bool true), (4, .int .i64 t_24), (0, v0)]) S tys tys_ok 6 [51, 4, 0] (by kernel_rfl) ?_
    clear S; intro a S
    obtain rfl := Option.some.inj eq_31
    exact ⟨rfl, S.sub (by exact ⟨rfl, rfl, rfl, trivial⟩)⟩
  clear S eq_31; rintro a _ ⟨rfl, S⟩
  refine wl_pure (l' := [(52, .bool q_31), (51, .bool q_31), (4, .int .i64 t_24), (0, v0)]) S tys tys_ok 1 (by kernel_rfl) ?_
  clear S; intro a S
  obtain ⟨q_34, eq_34, h⟩ := bindS h
  refine seg 8 (fun a_ w_ => w_28 = w_ ∧ St 157 a_ [(60, .bool q_34), (4, .int .i64 t_24), (0, v0)]) ?_ ?_
  ·by_cases hc : q_31 = false
   ·rw [if_pos hc] at eq_34; rw [hc] at S
    refine wl_pure (l' := [(55, .int .i64 t_24), (54, .int .i64 t_24), (53, v0), (52, .bool false), (51, .bool false), (4, .int .i64 t_24), (0, v0)]) S tys tys_ok 3 (by kernel_rfl) ?_
    clear S; intro a S
    obtain ⟨x_35, ex_35, eq_34⟩ := bindS eq_34
    refine w_go S rfl (op_arith S .i64 (t_24 + 4) rfl (.inl rfl) rfl rfl rfl rfl ex_35 ?_)
    clear S; intro a S
    obtain ⟨s_38, es_38, eq_34⟩ := bindS eq_34
    refine w_go S rfl (op_slice S rfl ty28 rfl rfl rfl R0 (.inr ⟨_, _, rfl, rfl⟩) (.inr ⟨_, _, rfl, rfl⟩) es_38 ?_)
    clear S; intro a v_36 R_37 S
    refine w_go S rfl (op_str (K := _) S rfl ty28 ty9 rfl rfl rfl R_37 ?_)
    clear S; intro a S
    refine w_go S rfl (op_strne S rfl rfl rfl rfl (by kernel_rfl) (R_37.byt).1 ((strG ([78, 67, 77, 48]) (by decide) (by decide))).1 ?_)
    clear S; intro a S
    refine wl_pureK (l' := [(60, .bool (!(decide (s_38.xs = [78, 67, 77, 48])))), (4, .int .i64 t_24), (0, v0)]) S tys tys_ok 1 [60, 4, 0] (by kernel_rfl) ?_
    clear S; intro a S
    obtain rfl := Option.some.inj eq_34
    exact ⟨rfl, S.sub (by exact ⟨rfl, rfl, rfl, trivial⟩)⟩
   ·rw [if_neg hc] at eq_34; rw [show q_31 = true from (by simpa using hc)] at S
    refine wl_pureK (l' := [(60, .bool true), (4, .int .i64 t_24), (0, v0)]) S tys tys_ok 8 [60, 4, 0] (by kernel_rfl) ?_
    clear S; intro a S
    obtain rfl := Option.some.inj eq_34
    exact ⟨rfl, S.sub (by exact ⟨rfl, rfl, rfl, trivial⟩)⟩
  clear S eq_34; rintro a _ ⟨rfl, S⟩
  refine wl_pure (l' := [(61, .bool q_34), (60, .bool q_34), (4, .int .i64 t_24), (0, v0)]) S tys tys_ok 1 (by kernel_rfl) ?_
  clear S; intro a S
  obtain ⟨q_39, eq_39, h⟩ := bindS h
  refine seg 6 (fun a_ w_ => St 157 a_ [(67, .bool q_39), (4, .int .i64 t_24), (0, v0)] ∧ Wd w w_ [] ∧ RepV (.sl (.int .u8)) w_ (Kx K w.heap.size []) v0 x0) ?_ ?_
  ·by_cases hc : q_34 = false
   ·rw [if_pos hc] at eq_39; rw [hc] at S
    refine wl_pure (l' := [(63, .int .i64 t_24), (62, v0), (61, .bool false), (60, .bool false), (4, .int .i64 t_24), (0, v0)]) S tys tys_ok 2 (by kernel_rfl) ?_
    clear S; intro a S
    obtain ⟨x_40, ex_40, eq_39⟩ := bindS eq_39
    refine w_go S rfl (op_arith S .i64 (t_24 + 6) rfl (.inl rfl) rfl rfl rfl rfl ex_40 ?_)
    clear S; intro a S
    obtain ⟨t_41, et_41, eq_39⟩ := bindS eq_39
    refine w_go S rfl (op_call (vs := [v0, .int .i64 x_40]) S rfl cb14 rfl rfl rfl (c14 (Kx K w.heap.size []) n w_28 x0 _ R0 x_40 (ckI_some ex_40).2.1 et_41) ?_)
    rintro _ w_45 ⟨v_42, rfl, R_43, hb_44⟩; refine ⟨_, rfl, ?_⟩
    replace R_43 := RepV.back R_43 W
    clear S; intro a S
    replace R0 := R0.step hb_44
    replace W := W.step hb_44
    obtain ⟨rfl, GR_43⟩ := RepV.int R_43
    refine wl_pureK (l' := [(67, .bool (t_41 != 0)), (4, .int .i64 t_24), (0, v0)]) S tys tys_ok 2 [67, 4, 0] (by kernel_rfl) ?_
    clear S; intro a S
    obtain rfl := Option.some.inj eq_39
    exact ⟨S.sub (by exact ⟨rfl, rfl, rfl, trivial⟩), W, R0⟩
   ·rw [if_neg hc] at eq_39; rw [show q_34 = true from (by simpa using hc)] at S
    refine wl_pureK (l' := [(67, .bool true), (4, .int .i64 t_24), (0, v0)]) S tys tys_ok 6 [67, 4, 0] (by kernel_rfl) ?_
    clear S; intro a S
    obtain rfl := Option.some.inj eq_39
    exact ⟨S.sub (by exact ⟨rfl, rfl, rfl, trivial⟩), W, R0⟩
  clear S W eq_39; rintro a w_46 ⟨S, W, R0⟩
  refine wpList_nil ?_
  refine then_n ?_
  refine wp_cond_split (S.eval (show ev _ _ = some (.bool q_39) from rfl)) ?_ ?_
  ·intro hc
   rw [if_pos hc] at h
   refine wp_seq ?_
   refine wp_region_lit ?_
   refine wl_pureK (l' := [(3, .int .i64 4), (2, .slice .none 0 0)]) S tys tys_ok 2 [3, 2] (by kernel_rfl) ?_
   clear S; intro a S
   refine wpList_nil ?_
   refine then_n ?_
   refine wp_ret ?_
   refine then_r ?_
   replace W := W.more
   have O_47 : Ow (.sl (.int .u8)) 28 w_46 w.heap.size (Kx K w.heap.size [.none]) (.slice .none 0 0) ([] : List (Sl (Int))) (some 0) := Ow.nil
   obtain rfl := Option.some.inj h
   exact b_ret2 S rfl rfl rfl ⟨_, _, rfl, (O_47.lessO 0 rfl), (RepV.mkInt (by decide)), W.below⟩
  ·intro hc
   rw [if_neg (Bool.eq_false_iff.1 hc)] at h
   refine wp_skip ?_
   refine then_n ?_
   replace S := S.sub (l' := [(4, .int .i64 t_24), (0, v0)]) (by exact ⟨rfl, rfl, trivial⟩)
   refine wp_seq ?_
   refine wp_region_lit ?_
   refine wl_pure (l' := [(69, .int .i64 t_24), (68, v0), (4, .int .i64 t_24), (0, v0)]) S tys tys_ok 2 (by kernel_rfl) ?_
   clear S; intro a S
   obtain ⟨x_48, ex_48, h⟩ := bindS h
   refine w_go S rfl (op_arith S .i64 (t_24 + 4) rfl (.inl rfl) rfl rfl rfl rfl ex_48 ?_)
   clear S; intro a S
   obtain ⟨t_49, et_49, h⟩ := bindS h
   refine w_go S rfl (op_call (vs := [v0, .int .i64 x_48]) S rfl cb14 rfl rfl rfl (c14 (Kx K w.heap.size []) n w_46 x0 _ R0 x_48 (ckI_some ex_48).2.1 et_49) ?_)
   rintro _ w_53 ⟨v_50, rfl, R_51, hb_52⟩; refine ⟨_, rfl, ?_⟩
   replace R_51 := RepV.back R_51 W
   clear S; intro a S
   replace R0 := R0.step hb_52
   replace W := W.step hb_52
   obtain ⟨rfl, GR_51⟩ := RepV.int R_51
   refine wl_pureK (l' := [(5, .int .i64 t_49), (4, .int .i64 t_24), (0, v0)]) S tys tys_ok 1 [5, 4, 0] (by kernel_rfl) ?_
   clear S; intro a S
   refine wpList_nil ?_
   refine then_n ?_
   refine wp_seq ?_
   refine wp_seq ?_
   refine wp_region_lit ?_
   refine wl_pure (l' := [(74, .bool (decide (t_49 < 12))), (73, .bool (decide (t_49 < 12))), (72, .int .i64 t_49), (5, .int .i64 t_49), (4, .int .i64 t_24), (0, v0)]) S tys tys_ok 3 (by kernel_rfl) ?_
   clear S; intro a S
   obtain ⟨q_54, eq_54, h⟩ := bindS h
   refine seg 4 (fun a_ w_ => w_53 = w_ ∧ St 157 a_ [(78, .bool q_54), (5, .int .i64 t_49), (4, .int .i64 t_24), (0, v0)]) ?_ ?_
   ·by_cases hc : (decide (t_49 < 12)) = false
    ·rw [if_pos hc] at eq_54; rw [hc] at S
     refine wl_pure (l' := [(75, .int .i64 t_49), (74, .bool false), (73, .bool false), (72, .int .i64 t_49), (5, .int .i64 t_49), (4, .int .i64 t_24), (0, v0)]) S tys tys_ok 1 (by kernel_rfl) ?_
     clear S; intro a S
     obtain ⟨x_55, ex_55, eq_54⟩ := bindS eq_54
     refine w_go S rfl (op_rem S .i64 rfl rfl rfl rfl rfl ex_55 ?_)
     clear S; intro a S
     refine wl_pureK (l' := [(78, .bool (x_55 != 0)), (5, .int .i64 t_49), (4, .int .i64 t_24), (0, v0)]) S tys tys_ok 2 [78, 5, 4, 0] (by kernel_rfl) ?_
     clear S; intro a S
     obtain rfl := Option.some.inj eq_54
     exact ⟨rfl, S.sub (by exact ⟨rfl, rfl, rfl, rfl, trivial⟩)⟩
    ·rw [if_neg hc] at eq_54; rw [show (decide (t_49 < 12)) = true from (by simpa using hc)] at S
     refine wl_pureK (l' := [(78, .bool true), (5, .int .i64 t_49), (4, .int .i64 t_24), (0, v0)]) S tys tys_ok 4 [78, 5, 4, 0] (by kernel_rfl) ?_
     clear S; intro a S
     obtain rfl := Option.some.inj eq_54
     exact ⟨rfl, S.sub (by exact ⟨rfl, rfl, rfl, rfl, trivial⟩)⟩
   clear S eq_54; rintro a _ ⟨rfl, S⟩
   refine wl_pure (l' := [(79, .bool q_54), (78, .bool q_54), (5, .int .i64 t_49), (4, .int .i64 t_24), (0, v0)]) S tys tys_ok 1 (by kernel_rfl) ?_
   clear S; intro a S
   obtain ⟨q_56, eq_56, h⟩ := bindS h
   refine seg 7 (fun a_ w_ => w_53 = w_ ∧ St 157 a_ [(86, .bool q_56), (5, .int .i64 t_49), (4, .int .i64 t_24), (0, v0)]) ?_ ?_
   ·by_cases hc : q_54 = false
    ·rw [if_pos hc] at eq_56; rw [hc] at S
     refine wl_pure (l' := [(81, .int .i64 t_49), (80, .int .i64 t_24), (79, .bool false), (78, .bool false), (5, .int .i64 t_49), (4, .int .i64 t_24), (0, v0)]) S tys tys_ok 2 (by kernel_rfl) ?_
     clear S; intro a S
     obtain ⟨x_57, ex_57, eq_56⟩ := bindS eq_56
     refine w_go S rfl (op_arith S .i64 (t_24 + t_49) rfl (.inl rfl) rfl rfl rfl rfl ex_57 ?_)
     clear S; intro a S
     refine wl_pureK (l' := [(83, v0), (82, .int .i64 x_57), (79, .bool false), (5, .int .i64 t_49), (4, .int .i64 t_24), (0, v0)]) S tys tys_ok 1 [83, 82, 79, 5, 4, 0] (by kernel_rfl) ?_
     clear S; intro a S
     refine w_go S rfl (op_len (K := _) S rfl ty28 rfl rfl rfl R0 ?_)
     clear S; intro a G_58 S
     refine wl_pureK (l' := [(86, .bool (decide (x_57 > (lenI x0)))), (5, .int .i64 t_49), (4, .int .i64 t_24), (0, v0)]) S tys tys_ok 2 [86, 5, 4, 0] (by kernel_rfl) ?_
     clear S; intro a S
     obtain rfl := Option.some.inj eq_56
     exact ⟨rfl, S.sub (by exact ⟨rfl, rfl, rfl, rfl, trivial⟩)⟩
    ·rw [if_neg hc] at eq_56; rw [show q_54 = true from (by simpa using hc)] at S
     refine wl_pureK (l' := [(86, .bool true), (5, .int .i64 t_49), (4, .int .i64 t_24), (0, v0)]) S tys tys_ok 7 [86, 5, 4, 0] (by kernel_rfl) ?_
     clear S; intro a S
     obtain rfl := Option.some.inj eq_56
     exact ⟨rfl, S.sub (by exact ⟨rfl, rfl, rfl, rfl, trivial⟩)⟩
   clear S eq_56; rintro a _ ⟨rfl, S⟩
   refine wl_pure (l' := [(87, .bool q_56), (86, .bool q_56), (5, .int .i64 t_49), (4, .int .i64 t_24), (0, v0)]) S tys tys_ok 1 (by kernel_rfl) ?_
   clear S; intro a S
   obtain ⟨q_59, eq_59, h⟩ := bindS h
   refine seg 12 (fun a_ w_ => w_53 = w_ ∧ St 157 a_ [(99, .bool q_59), (5, .int .i64 t_49), (4, .int .i64 t_24), (0, v0)]) ?_ ?_
   ·by_cases hc : q_56 = false
    ·rw [if_pos hc] at eq_59; rw [hc] at S
     refine wl_pure (l' := [(90, .int .i64 t_49), (89, .int .i64 t_24), (88, v0), (87, .bool false), (86, .bool false), (5, .int .i64 t_49), (4, .int .i64 t_24), (0, v0)]) S tys tys_ok 3 (by kernel_rfl) ?_
     clear S; intro a S
     obtain ⟨x_60, ex_60, eq_59⟩ := bindS eq_59
     refine w_go S rfl (op_arith S .i64 (t_24 + t_49) rfl (.inl rfl) rfl rfl rfl rfl ex_60 ?_)
     clear S; intro a S
     obtain ⟨x_61, ex_61, eq_59⟩ := bindS eq_59
     refine w_go S rfl (op_arith S .i64 (x_60 - 4) rfl (.inr (.inl rfl)) rfl rfl rfl rfl ex_61 ?_)
     clear S; intro a S
     refine wl_pureK (l' := [(94, .int .i64 t_49), (93, .int .i64 t_24), (92, .int .i64 x_61), (88, v0), (87, .bool false), (5, .int .i64 t_49), (4, .int .i64 t_24), (0, v0)]) S tys tys_ok 2 [94, 93, 92, 88, 87, 5, 4, 0] (by kernel_rfl) ?_
     clear S; intro a S
     obtain ⟨x_62, ex_62, eq_59⟩ := bindS eq_59
     refine w_go S rfl (op_arith S .i64 (t_24 + t_49) rfl (.inl rfl) rfl rfl rfl rfl ex_62 ?_)
     clear S; intro a S
     obtain ⟨s_65, es_65, eq_59⟩ := bindS eq_59
     refine w_go S rfl (op_slice S rfl ty28 rfl rfl rfl R0 (.inr ⟨_, _, rfl, rfl⟩) (.inr ⟨_, _, rfl, rfl⟩) es_65 ?_)
     clear S; intro a v_63 R_64 S
     refine w_go S rfl (op_str (K := _) S rfl ty28 ty9 rfl rfl rfl R_64 ?_)
     clear S; intro a S
     refine w_go S rfl (op_strne S rfl rfl rfl rfl (by kernel_rfl) (R_64.byt).1 ((strG ([0, 0, 0, 0]) (by decide) (by decide))).1 ?_)
     clear S; intro a S
     refine wl_pureK (l' := [(99, .bool (!(decide (s_65.xs = [0, 0, 0, 0])))), (5, .int .i64 t_49), (4, .int .i64 t_24), (0, v0)]) S tys tys_ok 1 [99, 5, 4, 0] (by kernel_rfl) ?_
     clear S; intro a S
     obtain rfl := Option.some.inj eq_59
     exact ⟨rfl, S.sub (by exact ⟨rfl, rfl, rfl, rfl, trivial⟩)⟩
    ·rw [if_neg hc] at eq_59; rw [show q_56 = true from (by simpa using hc)] at S
     refine wl_pureK (l' := [(99, .bool true), (5, .int .i64 t_49), (4, .int .i64 t_24), (0, v0)]) S tys tys_ok 12 [99, 5, 4, 0] (by kernel_rfl) ?_
     clear S; intro a S
     obtain rfl := Option.some.inj eq_59
     exact ⟨rfl, S.sub (by exact ⟨rfl, rfl, rfl, rfl, trivial⟩)⟩
   clear S eq_59; rintro a _ ⟨rfl, S⟩
   refine wpList_nil ?_
   refine then_n ?_
   refine wp_cond_split (S.eval (show ev _ _ = some (.bool q_59) from rfl)) ?_ ?_
   ·intro hc
    rw [if_pos hc] at h
    refine wp_seq ?_
    refine wp_region_lit ?_
    refine wl_pureK (l' := [(3, .int .i64 4), (2, .slice .none 0 0)]) S tys tys_ok 2 [3, 2] (by kernel_rfl) ?_
    clear S; intro a S
    refine wpList_nil ?_
    refine then_n ?_
    refine wp_ret ?_
    refine then_r ?_
    replace W := W.more
    have O_66 : Ow (.sl (.int .u8)) 28 w_53 w.heap.size (Kx K w.heap.size [.none]) (.slice .none 0 0) ([] : List (Sl (Int))) (some 0) := Ow.nil
    obtain rfl := Option.some.inj h
    exact b_ret2 S rfl rfl rfl ⟨_, _, rfl, (O_66.lessO 0 rfl), (RepV.mkInt (by decide)), W.below⟩
   ·intro hc
    rw [if_neg (Bool.eq_false_iff.1 hc)] at h
    refine wp_skip ?_
    refine then_n ?_
    replace S := S.sub (l' := [(5, .int .i64 t_49), (4, .int .i64 t_24), (0, v0)]) (by exact ⟨rfl, rfl, rfl, trivial⟩)
    refine wp_seq ?_
    refine wp_region_lit ?_
    refine wl_pure (l' := [(6, .slice .none 0 0), (5, .int .i64 t_49), (4, .int .i64 t_24), (0, v0)]) S tys tys_ok 1 (by kernel_rfl) ?_
    clear S; intro a S
    refine wpList_nil ?_
    refine then_n ?_
    refine wp_seq ?_
    refine wp_seq ?_
    refine wp_region_lit ?_
    refine wl_pure (l' := [(7, .int .i64 8), (6, .slice .none 0 0), (5, .int .i64 t_49), (4, .int .i64 t_24), (0, v0)]) S tys tys_ok 1 (by kernel_rfl) ?_
    clear S; intro a S
    refine wpList_nil ?_
    refine then_n ?_
    obtain ⟨y_77, ey_77, h⟩ := bindS h
    refine wp_cut_ (fun a_ w_ => ∃ s_78 : (List (Sl (Int))), y_77 = .inl s_78 ∧ (∃ (v_79 : Value), St 157 a_ [(6, v_79)] ∧ Wd w w_ [v_79.ownBlock] ∧ Ow (.sl (.int .u8)) 28 w_ w.heap.size (Kx K w.heap.size [v_79.ownBlock]) v_79 s_78 .none)) ?_ ?_
    ·refine wp_block ?_
     refine wp_loop_n (fun m_ a_ w_ => ∃ (c_67 : Int) (c_69 : List (Sl (Int))) , ∃ (v_70 : Value), St 157 a_ [(7, .int .i64 c_67), (6, v_70), (5, .int .i64 t_49), (4, .int .i64 t_24), (0, v0)] ∧ Wd w w_ [v_70.ownBlock] ∧ InR .i64 c_67 ∧ RepV (.sl (.int .u8)) w_ (Kx K w.heap.size [v_70.ownBlock]) v0 x0 ∧ Ow (.sl (.int .u8)) 28 w_ w.heap.size (Kx K w.heap.size [v_70.ownBlock]) v_70 c_69 .none ∧ p15_l1 n x0 t_24 t_49 m_ c_67 c_69 = some y_77) n ?_ ?_
     ·skip
      replace R0 := R0.more
      replace W := W.more
      have O_83 : Ow (.sl (.int .u8)) 28 w_53 w.heap.size (Kx K w.heap.size [.none]) (.slice .none 0 0) ([] : List (Sl (Int))) (some 0) := Ow.nil
      exact ⟨8, [], ⟨(.slice .none 0 0), S.sub (by exact ⟨rfl, rfl, rfl, rfl, rfl, trivial⟩), W, (by decide), R0, O_83.forget, ey_77⟩⟩
     ·clear S W; rintro m_81 a w_84 ⟨c_67, c_69, v_70, S, W, G_68, R0, O_71, hl_82⟩
      cases m_81 with
      | zero => exact absurd hl_82 (by simp [p15_l1])
      | succ m_81 =>
       refine ⟨m_81, rfl, ?_⟩
       rw [p15_l1] at hl_82
       refine wp_seq ?_
       refine wp_seq ?_
       refine wp_region_lit ?_
       refine wl_pure (l' := [(100, .int .i64 c_67), (7, .int .i64 c_67), (6, v_70), (5, .int .i64 t_49), (4, .int .i64 t_24), (0, v0)]) S tys tys_ok 1 (by kernel_rfl) ?_
       clear S; intro a S
       obtain ⟨x_85, ex_85, hl_82⟩ := bindS hl_82
       refine w_go S rfl (op_arith S .i64 (c_67 + 4) rfl (.inl rfl) rfl rfl rfl rfl ex_85 ?_)
       clear S; intro a S
       refine wl_pureK (l' := [(103, .bool (decide (x_85 < t_49))), (7, .int .i64 c_67), (6, v_70), (5, .int .i64 t_49), (4, .int .i64 t_24), (0, v0)]) S tys tys_ok 2 [103, 7, 6, 5, 4, 0] (by kernel_rfl) ?_
       clear S; intro a S
       refine wpList_nil ?_
       refine then_n ?_
       refine wp_cond_split (S.eval (show ev _ _ = some (.bool (decide (x_85 < t_49))) from rfl)) ?_ ?_
       ·intro hc
        rw [if_pos hc] at hl_82
        refine wp_skip ?_
        refine then_n ?_
        replace S := S.sub (l' := [(7, .int .i64 c_67), (6, v_70), (5, .int .i64 t_49), (4, .int .i64 t_24), (0, v0)]) (by exact ⟨rfl, rfl, rfl, rfl, rfl, trivial⟩)
        refine wp_seq ?_
        refine wp_block ?_
        refine wp_seq ?_
        refine wp_region_lit ?_
        refine wl_pure (l' := [(108, .int .i64 c_67), (107, .int .i64 t_24), (106, v0), (7, .int .i64 c_67), (6, v_70), (5, .int .i64 t_49), (4, .int .i64 t_24), (0, v0)]) S tys tys_ok 3 (by kernel_rfl) ?_
        clear S; intro a S
        obtain ⟨x_86, ex_86, hl_82⟩ := bindS hl_82
        refine w_go S rfl (op_arith S .i64 (t_24 + c_67) rfl (.inl rfl) rfl rfl rfl rfl ex_86 ?_)
        clear S; intro a S
        obtain ⟨t_87, et_87, hl_82⟩ := bindS hl_82
        refine w_go S rfl (op_call (vs := [v0, .int .i64 x_86]) S rfl cb14 rfl rfl rfl (c14 (Kx K w.heap.size [v_70.ownBlock]) n w_84 x0 _ R0 x_86 (ckI_some ex_86).2.1 et_87) ?_)
        rintro _ w_91 ⟨v_88, rfl, R_89, hb_90⟩; refine ⟨_, rfl, ?_⟩
        replace R_89 := RepV.back R_89 W
        clear S; intro a S
        replace R0 := R0.step hb_90
        replace O_71 := O_71.step hb_90
        replace W := W.step hb_90
        obtain ⟨rfl, GR_89⟩ := RepV.int R_89
        refine wl_pureK (l' := [(113, .int .i64 c_67), (112, .int .i64 t_24), (111, v0), (110, .int .i64 t_87), (7, .int .i64 c_67), (6, v_70), (5, .int .i64 t_49), (4, .int .i64 t_24), (0, v0)]) S tys tys_ok 3 [113, 112, 111, 110, 7, 6, 5, 4, 0] (by kernel_rfl) ?_
        clear S; intro a S
        obtain ⟨x_92, ex_92, hl_82⟩ := bindS hl_82
        refine w_go S rfl (op_arith S .i64 (t_24 + c_67) rfl (.inl rfl) rfl rfl rfl rfl ex_92 ?_)
        clear S; intro a S
        obtain ⟨x_93, ex_93, hl_82⟩ := bindS hl_82
        refine w_go S rfl (op_arith S .i64 (x_92 + 2) rfl (.inl rfl) rfl rfl rfl rfl ex_93 ?_)
        clear S; intro a S
        obtain ⟨t_94, et_94, hl_82⟩ := bindS hl_82
        refine w_go S rfl (op_call (vs := [v0, .int .i64 x_93]) S rfl cb14 rfl rfl rfl (c14 (Kx K w.heap.size [v_70.ownBlock]) n w_91 x0 _ R0 x_93 (ckI_some ex_93).2.1 et_94) ?_)
        rintro _ w_98 ⟨v_95, rfl, R_96, hb_97⟩; refine ⟨_, rfl, ?_⟩
        replace R_96 := RepV.back R_96 W
        clear S; intro a S
        replace R0 := R0.step hb_97
        replace O_71 := O_71.step hb_97
        replace W := W.step hb_97
        obtain ⟨rfl, GR_96⟩ := RepV.int R_96
        refine wl_pureK (l' := [(9, .int .i64 t_94), (8, .int .i64 t_87), (7, .int .i64 c_67), (6, v_70), (5, .int .i64 t_49), (4, .int .i64 t_24), (0, v0)]) S tys tys_ok 2 [9, 8, 7, 6, 5, 4, 0] (by kernel_rfl) ?_
        clear S; intro a S
        refine wpList_nil ?_
        refine then_n ?_
        refine wp_seq ?_
        refine wp_seq ?_
        refine wp_region_lit ?_
        refine wl_pure (l' := [(118, .int .i64 t_94), (117, .int .i64 t_87), (9, .int .i64 t_94), (8, .int .i64 t_87), (7, .int .i64 c_67), (6, v_70), (5, .int .i64 t_49), (4, .int .i64 t_24), (0, v0)]) S tys tys_ok 2 (by kernel_rfl) ?_
        clear S; intro a S
        obtain ⟨x_99, ex_99, hl_82⟩ := bindS hl_82
        refine w_go S rfl (op_arith S .i64 (t_87 + t_94) rfl (.inl rfl) rfl rfl rfl rfl ex_99 ?_)
        clear S; intro a S
        refine wl_pureK (l' := [(120, .bool (x_99 == 0)), (9, .int .i64 t_94), (8, .int .i64 t_87), (7, .int .i64 c_67), (6, v_70), (5, .int .i64 t_49), (4, .int .i64 t_24), (0, v0)]) S tys tys_ok 1 [120, 9, 8, 7, 6, 5, 4, 0] (by kernel_rfl) ?_
        clear S; intro a S
        refine wpList_nil ?_
        refine then_n ?_
        refine wp_cond_split (S.eval (show ev _ _ = some (.bool (x_99 == 0)) from rfl)) ?_ ?_
        ·intro hc
         rw [if_pos hc] at hl_82
         refine wp_exit ?_
         refine then_x ?_
         refine blk_miss rfl ?_
         refine then_x ?_
         refine then_x ?_
         refine blk_hit ?_
         refine then_n ?_
         obtain rfl := Option.some.inj hl_82
         exact ⟨_, rfl, ⟨v_70, S.sub (by exact ⟨rfl, trivial⟩), W, O_71⟩⟩
        ·intro hc
         rw [if_neg (Bool.eq_false_iff.1 hc)] at hl_82
         refine wp_skip ?_
         refine then_n ?_
         replace S := S.sub (l' := [(9, .int .i64 t_94), (8, .int .i64 t_87), (7, .int .i64 c_67), (6, v_70), (5, .int .i64 t_49), (4, .int .i64 t_24), (0, v0)]) (by exact ⟨rfl, rfl, rfl, rfl, rfl, rfl, rfl, trivial⟩)
         refine wp_seq ?_
         refine wp_seq ?_
         refine wp_region_lit ?_
         refine wl_pure (l' := [(123, .bool (decide (t_87 < 12))), (122, .bool (decide (t_87 < 12))), (121, .int .i64 t_87), (9, .int .i64 t_94), (8, .int .i64 t_87), (7, .int .i64 c_67), (6, v_70), (5, .int .i64 t_49), (4, .int .i64 t_24), (0, v0)]) S tys tys_ok 3 (by kernel_rfl) ?_
         clear S; intro a S
         obtain ⟨q_100, eq_100, hl_82⟩ := bindS hl_82
         refine seg 4 (fun a_ w_ => w_98 = w_ ∧ St 157 a_ [(127, .bool q_100), (9, .int .i64 t_94), (8, .int .i64 t_87), (7, .int .i64 c_67), (6, v_70), (5, .int .i64 t_49), (4, .int .i64 t_24), (0, v0)]) ?_ ?_
         ·by_cases hc : (decide (t_87 < 12)) = false
          ·rw [if_pos hc] at eq_100; rw [hc] at S
           refine wl_pure (l' := [(124, .int .i64 t_87), (123, .bool false), (122, .bool false), (121, .int .i64 t_87), (9, .int .i64 t_94), (8, .int .i64 t_87), (7, .int .i64 c_67), (6, v_70), (5, .int .i64 t_49), (4, .int .i64 t_24), (0, v0)]) S tys tys_ok 1 (by kernel_rfl) ?_
           clear S; intro a S
           obtain ⟨x_101, ex_101, eq_100⟩ := bindS eq_100
           refine w_go S rfl (op_rem S .i64 rfl rfl rfl rfl rfl ex_101 ?_)
           clear S; intro a S
           refine wl_pureK (l' := [(127, .bool (x_101 != 0)), (126, .bool (x_101 != 0)), (125, .int .i64 x_101), (124, .int .i64 t_87), (9, .int .i64 t_94), (8, .int .i64 t_87), (7, .int .i64 c_67), (6, v_70), (5, .int .i64 t_49), (4, .int .i64 t_24), (0, v0)]) S tys tys_ok 2 [127, 126, 125, 124, 9, 8, 7, 6, 5, 4, 0] (by kernel_rfl) ?_
           clear S; intro a S
           obtain rfl := Option.some.inj eq_100
           exact ⟨rfl, S.sub (by exact ⟨rfl, rfl, rfl, rfl, rfl, rfl, rfl, rfl, trivial⟩)⟩
          ·rw [if_neg hc] at eq_100; rw [show (decide (t_87 < 12)) = true from (by simpa using hc)] at S
           refine wl_pureK (l' := [(127, .bool true), (126, undef), (125, undef), (124, undef), (9, .int .i64 t_94), (8, .int .i64 t_87), (7, .int .i64 c_67), (6, v_70), (5, .int .i64 t_49), (4, .int .i64 t_24), (0, v0)]) S tys tys_ok 4 [127, 126, 125, 124, 9, 8, 7, 6, 5, 4, 0] (by kernel_rfl) ?_
           clear S; intro a S
           obtain rfl := Option.some.inj eq_100
           exact ⟨rfl, S.sub (by exact ⟨rfl, rfl, rfl, rfl, rfl, rfl, rfl, rfl, trivial⟩)⟩
         clear S eq_100; rintro a _ ⟨rfl, S⟩
         refine wl_pure (l' := [(128, .bool q_100), (127, .bool q_100), (9, .int .i64 t_94), (8, .int .i64 t_87), (7, .int .i64 c_67), (6, v_70), (5, .int .i64 t_49), (4, .int .i64 t_24), (0, v0)]) S tys tys_ok 1 (by kernel_rfl) ?_
         clear S; intro a S
         obtain ⟨q_102, eq_102, hl_82⟩ := bindS hl_82
         refine seg 3 (fun a_ w_ => w_98 = w_ ∧ St 157 a_ [(131, .bool q_102), (9, .int .i64 t_94), (8, .int .i64 t_87), (7, .int .i64 c_67), (6, v_70), (5, .int .i64 t_49), (4, .int .i64 t_24), (0, v0)]) ?_ ?_
         ·by_cases hc : q_100 = false
          ·rw [if_pos hc] at eq_102; rw [hc] at S
           refine wl_pure (l' := [(131, .bool (t_94 == 0)), (130, .bool (t_94 == 0)), (129, .int .i64 t_94), (128, .bool false), (127, .bool false), (9, .int .i64 t_94), (8, .int .i64 t_87), (7, .int .i64 c_67), (6, v_70), (5, .int .i64 t_49), (4, .int .i64 t_24), (0, v0)]) S tys tys_ok 3 (by kernel_rfl) ?_
           clear S; intro a S
           obtain rfl := Option.some.inj eq_102
           exact ⟨rfl, S.sub (by exact ⟨rfl, rfl, rfl, rfl, rfl, rfl, rfl, rfl, trivial⟩)⟩
          ·rw [if_neg hc] at eq_102; rw [show q_100 = true from (by simpa using hc)] at S
           refine wl_pure (l' := [(131, .bool true), (130, undef), (129, undef), (128, .bool true), (127, .bool true), (9, .int .i64 t_94), (8, .int .i64 t_87), (7, .int .i64 c_67), (6, v_70), (5, .int .i64 t_49), (4, .int .i64 t_24), (0, v0)]) S tys tys_ok 3 (by kernel_rfl) ?_
           clear S; intro a S
           obtain rfl := Option.some.inj eq_102
           exact ⟨rfl, S.sub (by exact ⟨rfl, rfl, rfl, rfl, rfl, rfl, rfl, rfl, trivial⟩)⟩
         clear S eq_102; rintro a _ ⟨rfl, S⟩
         refine wl_pure (l' := [(132, .bool q_102), (131, .bool q_102), (9, .int .i64 t_94), (8, .int .i64 t_87), (7, .int .i64 c_67), (6, v_70), (5, .int .i64 t_49), (4, .int .i64 t_24), (0, v0)]) S tys tys_ok 1 (by kernel_rfl) ?_
         clear S; intro a S
         obtain ⟨q_103, eq_103, hl_82⟩ := bindS hl_82
         refine seg 3 (fun a_ w_ => w_98 = w_ ∧ St 157 a_ [(135, .bool q_103), (9, .int .i64 t_94), (8, .int .i64 t_87), (7, .int .i64 c_67), (6, v_70), (5, .int .i64 t_49), (4, .int .i64 t_24), (0, v0)]) ?_ ?_
         ·by_cases hc : q_102 = false
          ·rw [if_pos hc] at eq_103; rw [hc] at S
           refine wl_pure (l' := [(135, .bool (decide (t_94 > 1514))), (134, .bool (decide (t_94 > 1514))), (133, .int .i64 t_94), (132, .bool false), (131, .bool false), (9, .int .i64 t_94), (8, .int .i64 t_87), (7, .int .i64 c_67), (6, v_70), (5, .int .i64 t_49), (4, .int .i64 t_24), (0, v0)]) S tys tys_ok 3 (by kernel_rfl) ?_
           clear S; intro a S
           obtain rfl := Option.some.inj eq_103
           exact ⟨rfl, S.sub (by exact ⟨rfl, rfl, rfl, rfl, rfl, rfl, rfl, rfl, trivial⟩)⟩
          ·rw [if_neg hc] at eq_103; rw [show q_102 = true from (by simpa using hc)] at S
           refine wl_pure (l' := [(135, .bool true), (134, undef), (133, undef), (132, .bool true), (131, .bool true), (9, .int .i64 t_94), (8, .int .i64 t_87), (7, .int .i64 c_67), (6, v_70), (5, .int .i64 t_49), (4, .int .i64 t_24), (0, v0)]) S tys tys_ok 3 (by kernel_rfl) ?_
           clear S; intro a S
           obtain rfl := Option.some.inj eq_103
           exact ⟨rfl, S.sub (by exact ⟨rfl, rfl, rfl, rfl, rfl, rfl, rfl, rfl, trivial⟩)⟩
         clear S eq_103; rintro a _ ⟨rfl, S⟩
         refine wl_pure (l' := [(136, .bool q_103), (135, .bool q_103), (9, .int .i64 t_94), (8, .int .i64 t_87), (7, .int .i64 c_67), (6, v_70), (5, .int .i64 t_49), (4, .int .i64 t_24), (0, v0)]) S tys tys_ok 1 (by kernel_rfl) ?_
         clear S; intro a S
         obtain ⟨q_104, eq_104, hl_82⟩ := bindS hl_82
         refine seg 7 (fun a_ w_ => w_98 = w_ ∧ St 157 a_ [(143, .bool q_104), (9, .int .i64 t_94), (8, .int .i64 t_87), (7, .int .i64 c_67), (6, v_70), (5, .int .i64 t_49), (4, .int .i64 t_24), (0, v0)]) ?_ ?_
         ·by_cases hc : q_103 = false
          ·rw [if_pos hc] at eq_104; rw [hc] at S
           refine wl_pure (l' := [(138, .int .i64 t_94), (137, .int .i64 t_87), (136, .bool false), (135, .bool false), (9, .int .i64 t_94), (8, .int .i64 t_87), (7, .int .i64 c_67), (6, v_70), (5, .int .i64 t_49), (4, .int .i64 t_24), (0, v0)]) S tys tys_ok 2 (by kernel_rfl) ?_
           clear S; intro a S
           obtain ⟨x_105, ex_105, eq_104⟩ := bindS eq_104
           refine w_go S rfl (op_arith S .i64 (t_87 + t_94) rfl (.inl rfl) rfl rfl rfl rfl ex_105 ?_)
           clear S; intro a S
           refine wl_pure (l' := [(140, v0), (139, .int .i64 x_105), (138, .int .i64 t_94), (137, .int .i64 t_87), (136, .bool false), (135, .bool false), (9, .int .i64 t_94), (8, .int .i64 t_87), (7, .int .i64 c_67), (6, v_70), (5, .int .i64 t_49), (4, .int .i64 t_24), (0, v0)]) S tys tys_ok 1 (by kernel_rfl) ?_
           clear S; intro a S
           refine w_go S rfl (op_len (K := _) S rfl ty28 rfl rfl rfl R0 ?_)
           clear S; intro a G_106 S
           refine wl_pure (l' := [(143, .bool (decide (x_105 > (lenI x0)))), (142, .bool (decide (x_105 > (lenI x0)))), (141, .int .i64 (lenI x0)), (140, v0), (139, .int .i64 x_105), (138, .int .i64 t_94), (137, .int .i64 t_87), (136, .bool false), (135, .bool false), (9, .int .i64 t_94), (8, .int .i64 t_87), (7, .int .i64 c_67), (6, v_70), (5, .int .i64 t_49), (4, .int .i64 t_24), (0, v0)]) S tys tys_ok 2 (by kernel_rfl) ?_
           clear S; intro a S
           obtain rfl := Option.some.inj eq_104
           exact ⟨rfl, S.sub (by exact ⟨rfl, rfl, rfl, rfl, rfl, rfl, rfl, rfl, trivial⟩)⟩
          ·rw [if_neg hc] at eq_104; rw [show q_103 = true from (by simpa using hc)] at S
           refine wl_pure (l' := [(143, .bool true), (142, undef), (141, undef), (140, undef), (139, undef), (138, undef), (137, undef), (136, .bool true), (135, .bool true), (9, .int .i64 t_94), (8, .int .i64 t_87), (7, .int .i64 c_67), (6, v_70), (5, .int .i64 t_49), (4, .int .i64 t_24), (0, v0)]) S tys tys_ok 7 (by kernel_rfl) ?_
           clear S; intro a S
           obtain rfl := Option.some.inj eq_104
           exact ⟨rfl, S.sub (by exact ⟨rfl, rfl, rfl, rfl, rfl, rfl, rfl, rfl, trivial⟩)⟩
         clear S eq_104; rintro a _ ⟨rfl, S⟩
         refine wpList_nil ?_
         refine then_n ?_
         refine wp_cond_split (S.eval (show ev _ _ = some (.bool q_104) from rfl)) ?_ ?_
         ·intro hc
          rw [if_pos hc] at hl_82
          refine wp_seq ?_
          refine wp_region_lit ?_
          refine wl_pureK (l' := [(3, .int .i64 4), (2, .slice .none 0 0)]) S tys tys_ok 2 [3, 2] (by kernel_rfl) ?_
          clear S; intro a S
          refine wpList_nil ?_
          refine then_n ?_
          refine wp_ret ?_
          refine then_r ?_
          refine blk_r ?_
          refine then_r ?_
          refine then_r ?_
          refine blk_r ?_
          refine then_r ?_
          refine then_r ?_
          replace W := W.more
          have O_107 : Ow (.sl (.int .u8)) 28 w_98 w.heap.size (Kx K w.heap.size [.none, v_70.ownBlock]) (.slice .none 0 0) ([] : List (Sl (Int))) (some 0) := Ow.nil
          obtain rfl := Option.some.inj hl_82
          obtain rfl := lr_inr h
          exact b_ret2 S rfl rfl rfl ⟨_, _, rfl, (O_107.lessO 0 rfl), (RepV.mkInt (by decide)), W.below⟩
         ·intro hc
          rw [if_neg (Bool.eq_false_iff.1 hc)] at hl_82
          refine wp_skip ?_
          refine then_n ?_
          replace S := S.sub (l' := [(9, .int .i64 t_94), (8, .int .i64 t_87), (7, .int .i64 c_67), (6, v_70), (5, .int .i64 t_49), (4, .int .i64 t_24), (0, v0)]) (by exact ⟨rfl, rfl, rfl, rfl, rfl, rfl, rfl, trivial⟩)
          refine wp_region_lit ?_
          refine wl_pure (l' := [(148, .int .i64 t_94), (147, .int .i64 t_87), (146, .int .i64 t_87), (145, v0), (144, v_70), (9, .int .i64 t_94), (8, .int .i64 t_87), (7, .int .i64 c_67), (6, v_70), (5, .int .i64 t_49), (4, .int .i64 t_24), (0, v0)]) S tys tys_ok 5 (by kernel_rfl) ?_
          clear S; intro a S
          obtain ⟨x_108, ex_108, hl_82⟩ := bindS hl_82
          refine w_go S rfl (op_arith S .i64 (t_87 + t_94) rfl (.inl rfl) rfl rfl rfl rfl ex_108 ?_)
          clear S; intro a S
          obtain ⟨s_111, es_111, hl_82⟩ := bindS hl_82
          refine w_go S rfl (op_slice S rfl ty28 rfl rfl rfl R0 (.inr ⟨_, _, rfl, rfl⟩) (.inr ⟨_, _, rfl, rfl⟩) es_111 ?_)
          clear S; intro a v_109 R_110 S
          refine w_go S rfl (op_buildSlice (K := K) (e := (.sl (.int .u8))) (vs := [v_109]) (xs := [s_111]) S W rfl ty23 rfl rfl (by kernel_rfl) rfl rfl rfl rfl rfl ⟨R_110, trivial⟩ ?_)
          clear S; intro a w_115 v_112 hb_114 R_113 S
          replace R0 := R0.step hb_114
          replace R_110 := R_110.step hb_114
          replace O_71 := O_71.step hb_114
          replace W := W.step hb_114
          obtain ⟨l_116, el_116, hl_82⟩ := bindS hl_82
          refine w_go S rfl (op_append S W (E := 28) 0 rfl ty23 un23 by23 rfl rfl rfl rfl O_71 rfl R_113 el_116 ?_)
          clear S; intro a w_118 v_117 A_119 O_120 S
          replace R0 : RepV (.sl (.int .u8)) w_118 (Kx K w.heap.size [v_117.ownBlock]) v0 x0 := R0.apd A_119 (i := 0) rfl
          replace R_110 : RepV (.sl (.int .u8)) w_118 (Kx K w.heap.size [v_117.ownBlock]) v_109 s_111 := R_110.apd A_119 (i := 0) rfl
          replace R_113 : RepV (.sl (.sl (.int .u8))) w_118 (Kx K w.heap.size [v_117.ownBlock]) v_112 (⟨[s_111], some 1⟩ : Sl (Sl (Int))) := R_113.apd A_119 (i := 0) rfl
          replace W : Wd w w_118 [v_117.ownBlock] := W.apd A_119 (i := 0) rfl
          replace O_120 : Ow (.sl (.int .u8)) 28 w_118 w.heap.size (Kx K w.heap.size [v_117.ownBlock]) v_117 l_116 (capA .none l_116.length) := O_120
          refine wl_pureK (l' := [(6, v_117), (7, .int .i64 c_67), (6, v_70), (5, .int .i64 t_49), (4, .int .i64 t_24), (0, v0)]) S tys tys_ok 1 [6, 7, 5, 4, 0] (by kernel_rfl) ?_
          clear S; intro a S
          refine wpList_nil ?_
          refine blk_n ?_
          refine then_n ?_
          refine wp_region_lit ?_
          refine wl_pure (l' := [(104, .int .i64 c_67), (6, v_117), (7, .int .i64 c_67), (6, v_70), (5, .int .i64 t_49), (4, .int .i64 t_24), (0, v0)]) S tys tys_ok 1 (by kernel_rfl) ?_
          clear S; intro a S
          obtain ⟨x_121, ex_121, hl_82⟩ := bindS hl_82
          refine w_go S rfl (op_arith S .i64 (c_67 + 4) rfl (.inl rfl) rfl rfl rfl rfl ex_121 ?_)
          clear S; intro a S
          refine wl_pure (l' := [(7, .int .i64 x_121), (105, .int .i64 x_121), (104, .int .i64 c_67), (6, v_117), (7, .int .i64 c_67), (6, v_70), (5, .int .i64 t_49), (4, .int .i64 t_24), (0, v0)]) S tys tys_ok 1 (by kernel_rfl) ?_
          clear S; intro a S
          refine wpList_nil ?_
          refine then_n ?_
          exact ⟨x_121, l_116, ⟨v_117, S.sub (by exact ⟨rfl, rfl, rfl, rfl, rfl, trivial⟩), W, (ckI_some ex_121).2.1, R0, O_120.forget, hl_82⟩⟩
       ·intro hc
        rw [if_neg (Bool.eq_false_iff.1 hc)] at hl_82
        refine wp_exit ?_
        refine then_x ?_
        refine then_x ?_
        refine blk_hit ?_
        refine then_n ?_
        obtain rfl := Option.some.inj hl_82
        exact ⟨_, rfl, ⟨v_70, S.sub (by exact ⟨rfl, trivial⟩), W, O_71⟩⟩
    clear S W; rintro a w_122 ⟨s_78, rfl, v_79, S, W, O_80⟩
    replace h := lr_inl h; try dsimp only at h
    refine then_n ?_
    refine wp_seq ?_
    refine wp_seq ?_
    refine wp_region_lit ?_
    refine wl_pure (l' := [(153, v_79), (6, v_79)]) S tys tys_ok 1 (by kernel_rfl) ?_
    clear S; intro a S
    refine w_go S rfl (op_len (K := _) S rfl ty23 rfl rfl rfl O_80.read ?_)
    clear S; intro a G_123 S
    refine wl_pure (l' := [(155, .bool (decide ((lenI (⟨s_78, .none⟩ : Sl (Sl (Int)))) > 64))), (154, .int .i64 (lenI (⟨s_78, .none⟩ : Sl (Sl (Int))))), (153, v_79), (6, v_79)]) S tys tys_ok 1 (by kernel_rfl) ?_
    clear S; intro a S
    refine wpList_nil ?_
    refine then_n ?_
    replace S := S.sub (l' := [(155, .bool (decide ((lenI (⟨s_78, .none⟩ : Sl (Sl (Int)))) > 64))), (6, v_79)]) (by exact ⟨rfl, rfl, trivial⟩)
    refine wp_cond_split (S.eval (show ev _ _ = some (.bool (decide ((lenI (⟨s_78, .none⟩ : Sl (Sl (Int)))) > 64))) from rfl)) ?_ ?_
    ·intro hc
     rw [if_pos hc] at h
     refine wp_seq ?_
     refine wp_region_lit ?_
     refine wl_pure (l' := [(3, .int .i64 3), (2, .slice .none 0 0), (155, .bool (decide ((lenI (⟨s_78, .none⟩ : Sl (Sl (Int)))) > 64))), (6, v_79)]) S tys tys_ok 2 (by kernel_rfl) ?_
     clear S; intro a S
     refine wpList_nil ?_
     refine then_n ?_
     replace S := S.sub (l' := [(3, .int .i64 3), (2, .slice .none 0 0)]) (by exact ⟨rfl, rfl, trivial⟩)
     refine wp_ret ?_
     refine then_r ?_
     replace W := W.more
     have O_124 : Ow (.sl (.int .u8)) 28 w_122 w.heap.size (Kx K w.heap.size [.none, v_79.ownBlock]) (.slice .none 0 0) ([] : List (Sl (Int))) (some 0) := Ow.nil
     obtain rfl := Option.some.inj h
     exact b_ret2 S rfl rfl rfl ⟨_, _, rfl, (O_124.lessO 0 rfl), (RepV.mkInt (by decide)), W.below⟩
    ·intro hc
     rw [if_neg (Bool.eq_false_iff.1 hc)] at h
     refine wp_skip ?_
     refine then_n ?_
     replace S := S.sub (l' := [(6, v_79)]) (by exact ⟨rfl, trivial⟩)
     refine wp_seq ?_
     refine wp_region_lit ?_
     refine wl_pure (l' := [(3, .int .i64 0), (2, v_79), (156, v_79), (6, v_79)]) S tys tys_ok 3 (by kernel_rfl) ?_
     clear S; intro a S
     refine wpList_nil ?_
     refine then_n ?_
     replace S := S.sub (l' := [(3, .int .i64 0), (2, v_79)]) (by exact ⟨rfl, rfl, trivial⟩)
     refine wp_ret ?_
     obtain rfl := Option.some.inj h
     exact b_ret2 S rfl rfl rfl ⟨_, _, rfl, (O_80.lessO 0 rfl), (RepV.mkInt (by decide)), W.below⟩
theorem cb15 : callB Try.prog 15 = true := by kernel_rfl

end Go.Proofs.Ytlgalcekkffhnaa
