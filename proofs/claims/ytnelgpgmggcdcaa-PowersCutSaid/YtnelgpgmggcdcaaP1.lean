/- Functions of the program, as plain data. -/
import Derived.Test.YtnelgpgmggcdcaaP0
set_option linter.unusedVariables false
set_option linter.unusedSimpArgs false
namespace Go.Proofs.Ytnelgpgmggcdcaa
open Go.RowKit

def p9_l2 (n : Nat) (c_6 : List (Int × Int × Bool × Bool × Bool × Bool × Int)) (x_36 : Int) : Nat → (Int) → (List (Int)) → Option ((List (Int)))
  | 0, _, _ => .none
  | m + 1, c_340, c_342 => if (decide (c_340 < (lenI (⟨c_6, .none⟩ : Sl (Int × Int × Bool × Bool × Bool × Bool × Int))))) then ((idx c_6 c_340).bind fun y_351 => (if (y_351.1 == x_36) then ((idx c_6 c_340).bind fun y_358 => (idx c_342 y_358.2.1).bind fun y_364 => some (c_342.set y_358.2.1.toNat 1)) else some c_342).bind fun (j_357 : (List (Int))) => (ckI .i64 (c_340 + 1)).bind fun x_368 => p9_l2 n c_6 x_36 m x_368 j_357) else some c_342
def p9_l3 (n : Nat) (x0 : Sl (Int × Int × Int × Int)) (c_1 : Int) (j_313 : (Int)) (y_346 : (List (Int))) : Nat → (Int) → (Int × Int × Bool × Bool × Bool × Bool × Int) → Option ((Int × Int × Bool × Bool × Bool × Bool × Int))
  | 0, _, _ => .none
  | m + 1, c_370, c_372 => (if (decide (c_370 < j_313)) = true then some (c_372.2.1 == 0) else some false).bind fun q_380 => if q_380 then ((idx x0.xs c_1).bind fun y_383 => (ckI .i64 (y_383.2.1 + c_370)).bind fun x_389 => (remI .i64 x_389 j_313).bind fun x_390 => (ckI .i64 (1 + x_390)).bind fun x_391 => (idx y_346 x_391).bind fun y_392 => (if (y_392 == 0) then (some (c_372.1, IntKind.wrap .u8 x_391, c_372.2.2.1, c_372.2.2.2.1, c_372.2.2.2.2.1, c_372.2.2.2.2.2.1, c_372.2.2.2.2.2.2)) else some c_372).bind fun (j_395 : (Int × Int × Bool × Bool × Bool × Bool × Int)) => (ckI .i64 (c_370 + 1)).bind fun x_399 => p9_l3 n x0 c_1 j_313 y_346 m x_399 j_395) else some c_372
def p9_l4 (n : Nat) (c_6 : List (Int × Int × Bool × Bool × Bool × Bool × Int)) (x_36 : Int) : Nat → (Int) → (List (Int)) → Option ((List (Int)))
  | 0, _, _ => .none
  | m + 1, c_444, c_446 => if (decide (c_444 < (lenI (⟨c_6, .none⟩ : Sl (Int × Int × Bool × Bool × Bool × Bool × Int))))) then ((idx c_6 c_444).bind fun y_455 => (if (y_455.1 == x_36) then ((idx c_6 c_444).bind fun y_462 => (idx c_446 y_462.2.1).bind fun y_468 => some (c_446.set y_462.2.1.toNat 1)) else some c_446).bind fun (j_461 : (List (Int))) => (ckI .i64 (c_444 + 1)).bind fun x_472 => p9_l4 n c_6 x_36 m x_472 j_461) else some c_446
def p9_l5 (n : Nat) (x0 : Sl (Int × Int × Int × Int)) (c_1 : Int) (y_450 : (List (Int))) : Nat → (Int) → (Int × Int × Bool × Bool × Bool × Bool × Int) → Option ((Int × Int × Bool × Bool × Bool × Bool × Int))
  | 0, _, _ => .none
  | m + 1, c_474, c_476 => (if (decide (c_474 < 7)) = true then some (c_476.2.1 == 0) else some false).bind fun q_484 => if q_484 then ((idx x0.xs c_1).bind fun y_487 => (ckI .i64 (y_487.2.1 + c_474)).bind fun x_493 => (remI .i64 x_493 7).bind fun x_494 => (ckI .i64 (1 + x_494)).bind fun x_495 => (idx y_450 x_495).bind fun y_496 => (if (y_496 == 0) then (some (c_476.1, IntKind.wrap .u8 x_495, c_476.2.2.1, c_476.2.2.2.1, c_476.2.2.2.2.1, c_476.2.2.2.2.2.1, c_476.2.2.2.2.2.2)) else some c_476).bind fun (j_499 : (Int × Int × Bool × Bool × Bool × Bool × Int)) => (ckI .i64 (c_474 + 1)).bind fun x_503 => p9_l5 n x0 c_1 y_450 m x_503 j_499) else some c_476
def p9_l1 (n : Nat) (x0 : Sl (Int × Int × Int × Int)) : Nat → (Int) → (List (Int)) → (List (Int × Int × Bool × Bool × Bool × Bool × Int)) → Option ((List (Int × Int × Bool × Bool × Bool × Bool × Int)))
  | 0, _, _, _ => .none
  | m + 1, c_1, c_3, c_6 => (if (decide (c_1 < (lenI x0))) = true then some (decide (c_1 < 40)) else some false).bind fun q_26 => if q_26 then ((idx x0.xs c_1).bind fun y_27 => (ckI .i64 ((lenI (⟨c_6, .none⟩ : Sl (Int × Int × Bool × Bool × Bool × Bool × Int))) + 1)).bind fun x_34 => (remI .i64 y_27.1 x_34).bind fun x_35 => (ckI .i64 (x_35 - 1)).bind fun x_36 => (idx x0.xs c_1).bind fun y_37 => (remI .u8 y_37.2.2.1 2).bind fun x_43 => (idx x0.xs c_1).bind fun y_44 => (quoI .u8 y_44.2.2.1 4).bind fun x_50 => (remI .u8 x_50 2).bind fun x_51 => (idx x0.xs c_1).bind fun y_52 => (quoI .u8 y_52.2.2.1 8).bind fun x_58 => (remI .u8 x_58 2).bind fun x_59 => (idx x0.xs c_1).bind fun y_60 => (remI .i64 y_60.2.2.2 501).bind fun x_66 => (if (x_43 == 1) = true then (idx x0.xs c_1).bind fun y_284 => (quoI .u8 y_284.2.2.1 2).bind fun x_290 => (remI .u8 x_290 2).bind fun x_291 => some (x_291 == 1) else some false).bind fun q_283 => if (decide (x_36 ≥ 0)) then ((idx c_6 x_36).bind fun y_294 => if (!y_294.2.2.1) then ((ckI .i64 (c_1 + 1)).bind fun x_300 => p9_l1 n x0 m x_300 c_3 c_6) else (idx c_3 x_36).bind fun y_301 => (idx c_6 x_36).bind fun y_307 => (if (!y_307.2.2.2.1) then (some 4) else some 7).bind fun (j_313 : (Int)) => (if (x_59 == 1) = false then (idx c_6 x_36).bind fun y_319 => some y_319.2.2.2.2.2.1 else some true).bind fun q_318 => (if (x_43 == 1) = true then some (y_301 == 5) else some false).bind fun q_329 => (if q_329 then (some (x_36, 0, false, false, (x_51 == 1), q_318, x_66)) else some (x_36, 0, (x_43 == 1), q_283, (x_51 == 1), q_318, x_66)).bind fun (j_330 : (Int × Int × Bool × Bool × Bool × Bool × Int)) => (p9_l2 n c_6 x_36 n 0 (List.replicate 8 (0 : Int))).bind fun (y_346 : (List (Int))) => (p9_l3 n x0 c_1 j_313 y_346 n 0 j_330).bind fun (y_376 : (Int × Int × Bool × Bool × Bool × Bool × Int)) => if (y_376.2.1 == 0) then ((ckI .i64 (c_1 + 1)).bind fun x_403 => p9_l1 n x0 m x_403 c_3 c_6) else (appI c_6 ([y_376])).bind fun l_410 => (if y_376.2.2.1 then ((ckI .i64 (y_301 + 1)).bind fun x_419 => some x_419) else some y_301).bind fun (j_417 : (Int)) => (appI c_3 ([j_417])).bind fun l_425 => (ckI .i64 (c_1 + 1)).bind fun x_430 => p9_l1 n x0 m x_430 l_425 l_410) else (if (x_43 == 1) = true then some (0 == 5) else some false).bind fun q_433 => (if q_433 then (some (x_36, 0, false, false, (x_51 == 1), (x_59 == 1), x_66)) else some (x_36, 0, (x_43 == 1), q_283, (x_51 == 1), (x_59 == 1), x_66)).bind fun (j_434 : (Int × Int × Bool × Bool × Bool × Bool × Int)) => (p9_l4 n c_6 x_36 n 0 (List.replicate 8 (0 : Int))).bind fun (y_450 : (List (Int))) => (p9_l5 n x0 c_1 y_450 n 0 j_434).bind fun (y_480 : (Int × Int × Bool × Bool × Bool × Bool × Int)) => if (y_480.2.1 == 0) then ((ckI .i64 (c_1 + 1)).bind fun x_507 => p9_l1 n x0 m x_507 c_3 c_6) else (appI c_6 ([y_480])).bind fun l_514 => (if y_480.2.2.1 then ((ckI .i64 (0 + 1)).bind fun x_523 => some x_523) else some 0).bind fun (j_521 : (Int)) => (appI c_3 ([j_521])).bind fun l_529 => (ckI .i64 (c_1 + 1)).bind fun x_534 => p9_l1 n x0 m x_534 l_529 l_514) else some c_6
def p9 (n : Nat) (x0 : Sl (Int × Int × Int × Int)) : Option ((Sl (Int × Int × Bool × Bool × Bool × Bool × Int))) :=
  (p9_l1 n x0 n 0 [] []).bind fun (y_17 : (List (Int × Int × Bool × Bool × Bool × Bool × Int))) =>
  some (⟨y_17, .none⟩ : Sl (Int × Int × Bool × Bool × Bool × Bool × Int))
set_option maxHeartbeats 4000000 in
set_option maxRecDepth 100000 in
/-- (plugboard/plugboardlaw19.T).Of -/
theorem c9 (K : Nat → Prop) (n : Nat) (w : World) (x0 : Sl (Int × Int × Int × Int)) (v0 : Value) (R0 : RepV (.sl gt0) w K v0 x0) {r : (Sl (Int × Int × Bool × Bool × Bool × Bool × Int))} (h : p9 n x0 = some r) :
    Calls Try.prog 9 #[v0] w (fun e_ w_ => ∃ v0_ : Value, e_ = .returned v0_ ∧ Ow gt1 32 w_ w.heap.size (Kx K w.heap.size [v0_.ownBlock]) v0_ r.xs r.cap ∧ Below w.heap.size w w_) := by
  refine enter (args := [v0]) Try.func9 rfl 179 rfl rfl fun a S => ?_
  have W := Wd.start w
  replace R0 := R0.arg
  unfold p9 at h
  replace S : St 179 a [(0, v0)] := S
  refine wp_seq ?_
  refine wp_region_lit ?_
  refine wl_pure (l' := [(2, .slice .none 0 0), (0, v0)]) S tys tys_ok 1 (by kernel_rfl) ?_
  clear S; intro a S
  refine wpList_nil ?_
  refine then_n ?_
  replace S := S.sub (l' := [(0, v0)]) (by exact ⟨rfl, trivial⟩)
  refine wp_seq ?_
  refine wp_region_lit ?_
  refine wl_pure (l' := [(3, .slice .none 0 0), (0, v0)]) S tys tys_ok 1 (by kernel_rfl) ?_
  clear S; intro a S
  refine wpList_nil ?_
  refine then_n ?_
  refine wp_seq ?_
  refine wp_region_lit ?_
  refine wl_pure (l' := [(4, .slice .none 0 0), (3, .slice .none 0 0), (0, v0)]) S tys tys_ok 1 (by kernel_rfl) ?_
  clear S; intro a S
  refine wpList_nil ?_
  refine then_n ?_
  refine wp_seq ?_
  refine wp_seq ?_
  refine wp_region_lit ?_
  refine wl_pure (l' := [(5, .int .i64 0), (4, .slice .none 0 0), (3, .slice .none 0 0), (0, v0)]) S tys tys_ok 1 (by kernel_rfl) ?_
  clear S; intro a S
  refine wpList_nil ?_
  refine then_n ?_
  obtain ⟨y_17, ey_17, h⟩ := bindS h
  refine wp_cut_ (fun a_ w_ => ∃ (v_18 : Value), St 179 a_ [(3, v_18)] ∧ Wd w w_ [v_18.ownBlock] ∧ Ow gt1 32 w_ w.heap.size (Kx K w.heap.size [v_18.ownBlock]) v_18 y_17 .none) ?_ ?_
  · refine wp_block ?_
    refine wp_loop_n (fun m_ a_ w_ => ∃ (c_1 : Int) (c_3 : List (Int)) (c_6 : List (Int × Int × Bool × Bool × Bool × Bool × Int)) , ∃ (v_4 : Value) (v_7 : Value), St 179 a_ [(5, .int .i64 c_1), (4, v_4), (3, v_7), (0, v0)] ∧ Wd w w_ [v_7.ownBlock, v_4.ownBlock] ∧ InR .i64 c_1 ∧ RepV (.sl gt0) w_ (Kx K w.heap.size [v_7.ownBlock, v_4.ownBlock]) v0 x0 ∧ Ow (.int .i64) 3 w_ w.heap.size (Kx K w.heap.size [v_7.ownBlock, v_4.ownBlock]) v_4 c_3 .none ∧ Ow gt1 32 w_ w.heap.size (Kx K w.heap.size [v_7.ownBlock, v_4.ownBlock]) v_7 c_6 .none ∧ p9_l1 n x0 m_ c_1 c_3 c_6 = some y_17) n ?_ ?_
    · skip
      replace R0 := R0.more
      replace W := W.more
      have O_22 : Ow (.int .i64) 3 w w.heap.size (Kx K w.heap.size [.none]) (.slice .none 0 0) ([] : List (Int)) (some 0) := Ow.nil
      replace R0 := R0.more
      replace O_22 := O_22.more
      replace W := W.more
      have O_23 : Ow gt1 32 w w.heap.size (Kx K w.heap.size [.none, .none]) (.slice .none 0 0) ([] : List (Int × Int × Bool × Bool × Bool × Bool × Int)) (some 0) := Ow.nil
      exact ⟨0, [], [], ⟨(.slice .none 0 0), (.slice .none 0 0), S.sub (by exact ⟨rfl, rfl, rfl, rfl, trivial⟩), W, (by decide), R0, O_22.forget, O_23.forget, ey_17⟩⟩
    · clear S W; rintro m_20 a w_24 ⟨c_1, c_3, c_6, v_4, v_7, S, W, G_2, R0, O_5, O_8, hl_21⟩
      cases m_20 with
      | zero => exact absurd hl_21 (by simp [p9_l1])
      | succ m_20 =>
        refine ⟨m_20, rfl, ?_⟩
        rw [p9_l1] at hl_21
        refine wp_seq ?_
        refine wp_seq ?_
        refine wp_region_lit ?_
        refine wl_pure (l' := [(15, v0), (14, .int .i64 c_1), (5, .int .i64 c_1), (4, v_4), (3, v_7), (0, v0)]) S tys tys_ok 2 (by kernel_rfl) ?_
        clear S; intro a S
        refine w_go S rfl (op_len (K := _) S rfl ty23 rfl rfl rfl R0 ?_)
        clear S; intro a G_25 S
        refine wl_pureK (l' := [(18, .bool (decide (c_1 < (lenI x0)))), (5, .int .i64 c_1), (4, v_4), (3, v_7), (0, v0)]) S tys tys_ok 2 [18, 5, 4, 3, 0] (by kernel_rfl) ?_
        clear S; intro a S
        obtain ⟨q_26, eq_26, hl_21⟩ := bindS hl_21
        refine seg 3 (fun a_ w_ => w_24 = w_ ∧ St 179 a_ [(21, .bool q_26), (5, .int .i64 c_1), (4, v_4), (3, v_7), (0, v0)]) ?_ ?_
        · by_cases hc : (decide (c_1 < (lenI x0))) = true
          · rw [if_pos hc] at eq_26; rw [hc] at S
            refine wl_pure (l' := [(21, .bool (decide (c_1 < 40))), (20, .bool (decide (c_1 < 40))), (19, .int .i64 c_1), (18, .bool true), (5, .int .i64 c_1), (4, v_4), (3, v_7), (0, v0)]) S tys tys_ok 3 (by kernel_rfl) ?_
            clear S; intro a S
            obtain rfl := Option.some.inj eq_26
            exact ⟨rfl, S.sub (by exact ⟨rfl, rfl, rfl, rfl, rfl, trivial⟩)⟩
          · rw [if_neg hc] at eq_26; rw [show (decide (c_1 < (lenI x0))) = false from Bool.eq_false_iff.2 hc] at S
            refine wl_pure (l' := [(21, .bool false), (20, undef), (19, undef), (18, .bool false), (5, .int .i64 c_1), (4, v_4), (3, v_7), (0, v0)]) S tys tys_ok 3 (by kernel_rfl) ?_
            clear S; intro a S
            obtain rfl := Option.some.inj eq_26
            exact ⟨rfl, S.sub (by exact ⟨rfl, rfl, rfl, rfl, rfl, trivial⟩)⟩
        clear S eq_26; rintro a _ ⟨rfl, S⟩
        refine wpList_nil ?_
        refine then_n ?_
        refine wp_cond_split (S.eval (show ev _ _ = some (.bool q_26) from rfl)) ?_ ?_
        · intro hc
          rw [if_pos hc] at hl_21
          refine wp_skip ?_
          refine then_n ?_
          replace S := S.sub (l' := [(5, .int .i64 c_1), (4, v_4), (3, v_7), (0, v0)]) (by exact ⟨rfl, rfl, rfl, rfl, trivial⟩)
          refine wp_seq ?_
          refine wp_block ?_
          refine wp_seq ?_
          refine wp_region_lit ?_
          refine wl_pure (l' := [(25, .int .i64 c_1), (24, v0), (5, .int .i64 c_1), (4, v_4), (3, v_7), (0, v0)]) S tys tys_ok 2 (by kernel_rfl) ?_
          clear S; intro a S
          obtain ⟨y_27, ey_27, hl_21⟩ := bindS hl_21
          refine w_go S rfl (op_indexAddr S rfl ty23 rfl rfl rfl R0 rfl ey_27 ?_)
          clear S; intro a p_28 R_29 H_30 S
          refine wl_pureK (l' := [(27, .pointer (some (p_28.add (coff gf0 0)))), (5, .int .i64 c_1), (4, v_4), (3, v_7), (0, v0)]) S tys tys_ok 1 [27, 5, 4, 3, 0] (by kernel_rfl) ?_
          clear S; intro a S
          refine w_go S rfl (op_load (t := (.int .u8)) (x := y_27.1) S rfl ty5 rfl rfl rfl (RepAt.add 0 (RepAt.st (t := gf0) R_29)) ?_)
          clear S; intro a v_31 R_32 S
          obtain ⟨rfl, GR_32⟩ := RepV.int R_32
          refine w_go S rfl (op_conv S .i64 .bool .bool rfl ty5 ty3 rfl rfl rfl (widen GR_32 (by decide)).1 ?_)
          clear S; intro a S
          refine wl_pure (l' := [(30, v_7), (29, .int .i64 y_27.1), (28, .int .u8 y_27.1), (27, .pointer (some (p_28.add (coff gf0 0)))), (5, .int .i64 c_1), (4, v_4), (3, v_7), (0, v0)]) S tys tys_ok 1 (by kernel_rfl) ?_
          clear S; intro a S
          refine w_go S rfl (op_len (K := _) S rfl ty24 rfl rfl rfl O_8.read ?_)
          clear S; intro a G_33 S
          obtain ⟨x_34, ex_34, hl_21⟩ := bindS hl_21
          refine w_go S rfl (op_arith S .i64 ((lenI (⟨c_6, .none⟩ : Sl (Int × Int × Bool × Bool × Bool × Bool × Int))) + 1) rfl (.inl rfl) rfl rfl rfl rfl ex_34 ?_)
          clear S; intro a S
          obtain ⟨x_35, ex_35, hl_21⟩ := bindS hl_21
          refine w_go S rfl (op_rem S .i64 rfl rfl rfl rfl rfl ex_35 ?_)
          clear S; intro a S
          obtain ⟨x_36, ex_36, hl_21⟩ := bindS hl_21
          refine w_go S rfl (op_arith S .i64 (x_35 - 1) rfl (.inr (.inl rfl)) rfl rfl rfl rfl ex_36 ?_)
          clear S; intro a S
          refine wl_pureK (l' := [(6, .int .i64 x_36), (5, .int .i64 c_1), (4, v_4), (3, v_7), (0, v0)]) S tys tys_ok 1 [6, 5, 4, 3, 0] (by kernel_rfl) ?_
          clear S; intro a S
          refine wpList_nil ?_
          refine then_n ?_
          refine wp_seq ?_
          obtain ⟨y_37, ey_37, hl_21⟩ := bindS hl_21
          obtain ⟨x_43, ex_43, hl_21⟩ := bindS hl_21
          obtain ⟨y_44, ey_44, hl_21⟩ := bindS hl_21
          obtain ⟨x_50, ex_50, hl_21⟩ := bindS hl_21
          obtain ⟨x_51, ex_51, hl_21⟩ := bindS hl_21
          obtain ⟨y_52, ey_52, hl_21⟩ := bindS hl_21
          obtain ⟨x_58, ex_58, hl_21⟩ := bindS hl_21
          obtain ⟨x_59, ex_59, hl_21⟩ := bindS hl_21
          obtain ⟨y_60, ey_60, hl_21⟩ := bindS hl_21
          obtain ⟨x_66, ex_66, hl_21⟩ := bindS hl_21
          refine wp_region_lay 33 [33, 33, 33, 33, 33, 33, 33, 33, 33, 33, 33, 33, 33, 33, 33, 33, 33, 33, 33, 33, 33, 33, 33, 33, 33, 33, 33, 33, 33, 33, 33, 33, 33] w [32] [v_7.ownBlock, v_4.ownBlock] [isIG .i64 x_36, isRepG (.sl gt0) K w.heap.size [32] [v_7.ownBlock, v_4.ownBlock] x0, isIG .i64 c_1, isElG gt0 K w.heap.size [32] [v_7.ownBlock, v_4.ownBlock] y_37, isElG (.int .u8) K w.heap.size [32] [v_7.ownBlock, v_4.ownBlock] y_37.2.2.1, isIG .u8 y_37.2.2.1, isIG .u8 x_43, eqvG (.bool (x_43 == 1)), isRepG (.sl gt0) K w.heap.size [32] [v_7.ownBlock, v_4.ownBlock] x0, isIG .i64 c_1, isElG gt0 K w.heap.size [32] [v_7.ownBlock, v_4.ownBlock] y_44, isElG (.int .u8) K w.heap.size [32] [v_7.ownBlock, v_4.ownBlock] y_44.2.2.1, isIG .u8 y_44.2.2.1, isIG .u8 x_50, isIG .u8 x_51, eqvG (.bool (x_51 == 1)), isRepG (.sl gt0) K w.heap.size [32] [v_7.ownBlock, v_4.ownBlock] x0, isIG .i64 c_1, isElG gt0 K w.heap.size [32] [v_7.ownBlock, v_4.ownBlock] y_52, isElG (.int .u8) K w.heap.size [32] [v_7.ownBlock, v_4.ownBlock] y_52.2.2.1, isIG .u8 y_52.2.2.1, isIG .u8 x_58, isIG .u8 x_59, eqvG (.bool (x_59 == 1)), isRepG (.sl gt0) K w.heap.size [32] [v_7.ownBlock, v_4.ownBlock] x0, isIG .i64 c_1, isElG gt0 K w.heap.size [32] [v_7.ownBlock, v_4.ownBlock] y_60, isElG (.int .u16) K w.heap.size [32] [v_7.ownBlock, v_4.ownBlock] y_60.2.2.2, isIG .u16 y_60.2.2.2, isIG .i64 y_60.2.2.2, isIG .i64 x_66, isRepG gt1 K w.heap.size [32] [v_7.ownBlock, v_4.ownBlock] (x_36, 0, (x_43 == 1), false, (x_51 == 1), (x_59 == 1), x_66), isBxG gt1 32 K w.heap.size [32] [v_7.ownBlock, v_4.ownBlock] 32 (0, 0, false, false, false, false, 0)] [[], [], [], [(1, 36), (2, 37)], [(3, 38)], [(4, 39)], [(5, 40)], [(6, 41)], [], [], [(8, 43), (9, 44)], [(10, 45)], [(11, 46)], [(12, 47)], [(13, 48)], [(14, 49)], [], [], [(16, 51), (17, 52)], [(18, 53)], [(19, 54)], [(20, 55)], [(21, 56)], [(22, 57)], [], [], [(24, 59), (25, 60)], [(26, 61)], [(27, 62)], [(28, 63)], [(29, 64)], [(0, 35), (7, 42), (15, 50), (23, 58), (30, 65)], []] (by kernel_rfl) (by rw [S.size]; kernel_rfl) (by kernel_rfl) (by kernel_rfl) (by kernel_rfl) rfl ⟨stabG_I, stabG_rep, stabG_I, stabG_el, stabG_el, stabG_I, stabG_I, (stabG_eqv _), stabG_rep, stabG_I, stabG_el, stabG_el, stabG_I, stabG_I, stabG_I, (stabG_eqv _), stabG_rep, stabG_I, stabG_el, stabG_el, stabG_I, stabG_I, stabG_I, (stabG_eqv _), stabG_rep, stabG_I, stabG_el, stabG_el, stabG_I, stabG_I, stabG_I, stabG_rep, stabG_bx, trivial⟩ ?_ ?_
          ·
            refine RunAllG.cons (isIG .i64 x_36) [] rfl rfl ?_ ?_
            · intro M_ W_ hW hU_ hV_
              have S1 := S
              refine fillG_nil S1 ?_; clear S1; intro a_ S1
              have S0 := S.defers; replace S := S1; clear S1
              refine wl_pure (l' := [(35, .int .i64 x_36), (6, .int .i64 x_36), (5, .int .i64 c_1), (4, v_4), (3, v_7), (0, v0)]) S tys tys_ok 1 (by kernel_rfl) ?_; clear S; intro a S
              refine wpList_nil ?_
              exact RPostG.mk_ S rfl S0 ⟨rfl, (ckI_some ex_36).2.1⟩ (Below.refl _ _)
            refine RunAllG.cons (isRepG (.sl gt0) K w.heap.size [32] [v_7.ownBlock, v_4.ownBlock] x0) [] rfl rfl ?_ ?_
            · intro M_ W_ hW hU_ hV_
              have S1 := S
              refine fillG_nil S1 ?_; clear S1; intro a_ S1
              replace R0 : RepV (.sl gt0) W_ (Kx K w.heap.size (lm [32] [v_7.ownBlock, v_4.ownBlock] M_)) v0 x0 := RepV.gr (g := (fun _ => none, w_24)) (RepV.lm0 R0) hW
              have S0 := S.defers; replace S := S1; clear S1
              refine wl_pure (l' := [(36, v0), (6, .int .i64 x_36), (5, .int .i64 c_1), (4, v_4), (3, v_7), (0, v0)]) S tys tys_ok 1 (by kernel_rfl) ?_; clear S; intro a S
              refine wpList_nil ?_
              exact RPostG.mk_ S rfl S0 R0 (Below.refl _ _)
            refine RunAllG.cons (isIG .i64 c_1) [] rfl rfl ?_ ?_
            · intro M_ W_ hW hU_ hV_
              have S1 := S
              refine fillG_nil S1 ?_; clear S1; intro a_ S1
              have S0 := S.defers; replace S := S1; clear S1
              refine wl_pure (l' := [(37, .int .i64 c_1), (6, .int .i64 x_36), (5, .int .i64 c_1), (4, v_4), (3, v_7), (0, v0)]) S tys tys_ok 1 (by kernel_rfl) ?_; clear S; intro a S
              refine wpList_nil ?_
              exact RPostG.mk_ S rfl S0 ⟨rfl, G_2⟩ (Below.refl _ _)
            refine RunAllG.cons (isElG gt0 K w.heap.size [32] [v_7.ownBlock, v_4.ownBlock] y_37) [(isRepG (.sl gt0) K w.heap.size [32] [v_7.ownBlock, v_4.ownBlock] x0, 36), (isIG .i64 c_1, 37)] rfl rfl ?_ ?_
            · intro M_ W_ hW hU_ hV_
              have S1 := S
              intro v_74 hF_73; replace hF_73 : RepV (.sl gt0) W_ (Kx K w.heap.size (lm [32] [v_7.ownBlock, v_4.ownBlock] M_)) v_74 x0 := hF_73
              replace S1 := S1.put (by decide : 36 < 179) (v_74)
              rintro _ ⟨rfl, hF_75⟩
              replace S1 := S1.put (by decide : 37 < 179) (.int .i64 c_1)
              refine fillG_nil S1 ?_; clear S1; intro a_ S1
              replace W : Wd w W_ (lm [32] [v_7.ownBlock, v_4.ownBlock] M_) := Gr.wd hW (Wd.lm0 _ W)
              have S0 := S.defers; replace S := S1; clear S1
              refine w_go S rfl (op_indexAddr S rfl ty23 rfl rfl rfl hF_73 rfl ey_37 ?_)
              clear S; intro a p_77 R_78 H_79 S
              refine wpList_nil ?_
              exact RPostG.mk_ S rfl S0 ⟨_, rfl, R_78, H_79⟩ (Below.refl _ _)
            refine RunAllG.cons (isElG (.int .u8) K w.heap.size [32] [v_7.ownBlock, v_4.ownBlock] y_37.2.2.1) [(isElG gt0 K w.heap.size [32] [v_7.ownBlock, v_4.ownBlock] y_37, 38)] rfl rfl ?_ ?_
            · intro M_ W_ hW hU_ hV_
              have S1 := S
              rintro _ ⟨p_82, rfl, R_83, H_84⟩; replace R_83 : RepAt gt0 W_ (Kx K w.heap.size (lm [32] [v_7.ownBlock, v_4.ownBlock] M_)) p_82 y_37 := R_83
              replace S1 := S1.put (by decide : 38 < 179) (.pointer (some p_82))
              refine fillG_nil S1 ?_; clear S1; intro a_ S1
              have S0 := S.defers; replace S := S1; clear S1
              refine wl_pure (l' := [(39, .pointer (some (p_82.add (coff gf0 2)))), (38, .pointer (some p_82)), (6, .int .i64 x_36), (5, .int .i64 c_1), (4, v_4), (3, v_7), (0, v0)]) S tys tys_ok 1 (by kernel_rfl) ?_; clear S; intro a S
              refine wpList_nil ?_
              exact RPostG.mk_ S rfl S0 ⟨_, rfl, (RepAt.add 2 (RepAt.st (t := gf0) R_83)), (by simpa [Addr.add] using H_84)⟩ (Below.refl _ _)
            refine RunAllG.cons (isIG .u8 y_37.2.2.1) [(isElG (.int .u8) K w.heap.size [32] [v_7.ownBlock, v_4.ownBlock] y_37.2.2.1, 39)] rfl rfl ?_ ?_
            · intro M_ W_ hW hU_ hV_
              have S1 := S
              rintro _ ⟨p_87, rfl, R_88, H_89⟩; replace R_88 : RepAt (.int .u8) W_ (Kx K w.heap.size (lm [32] [v_7.ownBlock, v_4.ownBlock] M_)) p_87 y_37.2.2.1 := R_88
              replace S1 := S1.put (by decide : 39 < 179) (.pointer (some p_87))
              refine fillG_nil S1 ?_; clear S1; intro a_ S1
              have S0 := S.defers; replace S := S1; clear S1
              refine w_go S rfl (op_load (t := (.int .u8)) (x := y_37.2.2.1) S rfl ty5 rfl rfl rfl R_88 ?_)
              clear S; intro a v_90 R_91 S
              obtain ⟨rfl, GR_91⟩ := RepV.int R_91
              refine wpList_nil ?_
              exact RPostG.mk_ S rfl S0 ⟨rfl, GR_91⟩ (Below.refl _ _)
            refine RunAllG.cons (isIG .u8 x_43) [(isIG .u8 y_37.2.2.1, 40)] rfl rfl ?_ ?_
            · intro M_ W_ hW hU_ hV_
              have S1 := S
              rintro _ ⟨rfl, hF_92⟩
              replace S1 := S1.put (by decide : 40 < 179) (.int .u8 y_37.2.2.1)
              refine fillG_nil S1 ?_; clear S1; intro a_ S1
              have S0 := S.defers; replace S := S1; clear S1
              refine w_go S rfl (op_rem S .u8 rfl rfl rfl rfl rfl ex_43 ?_)
              clear S; intro a S
              refine wpList_nil ?_
              exact RPostG.mk_ S rfl S0 ⟨rfl, (inR_rem ex_43)⟩ (Below.refl _ _)
            refine RunAllG.cons (eqvG (.bool (x_43 == 1))) [(isIG .u8 x_43, 41)] rfl rfl ?_ ?_
            · intro M_ W_ hW hU_ hV_
              have S1 := S
              rintro _ ⟨rfl, hF_94⟩
              replace S1 := S1.put (by decide : 41 < 179) (.int .u8 x_43)
              refine fillG_nil S1 ?_; clear S1; intro a_ S1
              have S0 := S.defers; replace S := S1; clear S1
              refine wl_pure (l' := [(42, .bool (x_43 == 1)), (41, .int .u8 x_43), (6, .int .i64 x_36), (5, .int .i64 c_1), (4, v_4), (3, v_7), (0, v0)]) S tys tys_ok 1 (by kernel_rfl) ?_; clear S; intro a S
              refine wpList_nil ?_
              exact RPostG.mk_ S rfl S0 rfl (Below.refl _ _)
            refine RunAllG.cons (isRepG (.sl gt0) K w.heap.size [32] [v_7.ownBlock, v_4.ownBlock] x0) [] rfl rfl ?_ ?_
            · intro M_ W_ hW hU_ hV_
              have S1 := S
              refine fillG_nil S1 ?_; clear S1; intro a_ S1
              replace R0 : RepV (.sl gt0) W_ (Kx K w.heap.size (lm [32] [v_7.ownBlock, v_4.ownBlock] M_)) v0 x0 := RepV.gr (g := (fun _ => none, w_24)) (RepV.lm0 R0) hW
              have S0 := S.defers; replace S := S1; clear S1
              refine wl_pure (l' := [(43, v0), (6, .int .i64 x_36), (5, .int .i64 c_1), (4, v_4), (3, v_7), (0, v0)]) S tys tys_ok 1 (by kernel_rfl) ?_; clear S; intro a S
              refine wpList_nil ?_
              exact RPostG.mk_ S rfl S0 R0 (Below.refl _ _)
            refine RunAllG.cons (isIG .i64 c_1) [] rfl rfl ?_ ?_
            · intro M_ W_ hW hU_ hV_
              have S1 := S
              refine fillG_nil S1 ?_; clear S1; intro a_ S1
              have S0 := S.defers; replace S := S1; clear S1
              refine wl_pure (l' := [(44, .int .i64 c_1), (6, .int .i64 x_36), (5, .int .i64 c_1), (4, v_4), (3, v_7), (0, v0)]) S tys tys_ok 1 (by kernel_rfl) ?_; clear S; intro a S
              refine wpList_nil ?_
              exact RPostG.mk_ S rfl S0 ⟨rfl, G_2⟩ (Below.refl _ _)
            refine RunAllG.cons (isElG gt0 K w.heap.size [32] [v_7.ownBlock, v_4.ownBlock] y_44) [(isRepG (.sl gt0) K w.heap.size [32] [v_7.ownBlock, v_4.ownBlock] x0, 43), (isIG .i64 c_1, 44)] rfl rfl ?_ ?_
            · intro M_ W_ hW hU_ hV_
              have S1 := S
              intro v_97 hF_96; replace hF_96 : RepV (.sl gt0) W_ (Kx K w.heap.size (lm [32] [v_7.ownBlock, v_4.ownBlock] M_)) v_97 x0 := hF_96
              replace S1 := S1.put (by decide : 43 < 179) (v_97)
              rintro _ ⟨rfl, hF_98⟩
              replace S1 := S1.put (by decide : 44 < 179) (.int .i64 c_1)
              refine fillG_nil S1 ?_; clear S1; intro a_ S1
              replace W : Wd w W_ (lm [32] [v_7.ownBlock, v_4.ownBlock] M_) := Gr.wd hW (Wd.lm0 _ W)
              have S0 := S.defers; replace S := S1; clear S1
              refine w_go S rfl (op_indexAddr S rfl ty23 rfl rfl rfl hF_96 rfl ey_44 ?_)
              clear S; intro a p_100 R_101 H_102 S
              refine wpList_nil ?_
              exact RPostG.mk_ S rfl S0 ⟨_, rfl, R_101, H_102⟩ (Below.refl _ _)
            refine RunAllG.cons (isElG (.int .u8) K w.heap.size [32] [v_7.ownBlock, v_4.ownBlock] y_44.2.2.1) [(isElG gt0 K w.heap.size [32] [v_7.ownBlock, v_4.ownBlock] y_44, 45)] rfl rfl ?_ ?_
            · intro M_ W_ hW hU_ hV_
              have S1 := S
              rintro _ ⟨p_105, rfl, R_106, H_107⟩; replace R_106 : RepAt gt0 W_ (Kx K w.heap.size (lm [32] [v_7.ownBlock, v_4.ownBlock] M_)) p_105 y_44 := R_106
              replace S1 := S1.put (by decide : 45 < 179) (.pointer (some p_105))
              refine fillG_nil S1 ?_; clear S1; intro a_ S1
              have S0 := S.defers; replace S := S1; clear S1
              refine wl_pure (l' := [(46, .pointer (some (p_105.add (coff gf0 2)))), (45, .pointer (some p_105)), (6, .int .i64 x_36), (5, .int .i64 c_1), (4, v_4), (3, v_7), (0, v0)]) S tys tys_ok 1 (by kernel_rfl) ?_; clear S; intro a S
              refine wpList_nil ?_
              exact RPostG.mk_ S rfl S0 ⟨_, rfl, (RepAt.add 2 (RepAt.st (t := gf0) R_106)), (by simpa [Addr.add] using H_107)⟩ (Below.refl _ _)
            refine RunAllG.cons (isIG .u8 y_44.2.2.1) [(isElG (.int .u8) K w.heap.size [32] [v_7.ownBlock, v_4.ownBlock] y_44.2.2.1, 46)] rfl rfl ?_ ?_
            · intro M_ W_ hW hU_ hV_
              have S1 := S
              rintro _ ⟨p_110, rfl, R_111, H_112⟩; replace R_111 : RepAt (.int .u8) W_ (Kx K w.heap.size (lm [32] [v_7.ownBlock, v_4.ownBlock] M_)) p_110 y_44.2.2.1 := R_111
              replace S1 := S1.put (by decide : 46 < 179) (.pointer (some p_110))
              refine fillG_nil S1 ?_; clear S1; intro a_ S1
              have S0 := S.defers; replace S := S1; clear S1
              refine w_go S rfl (op_load (t := (.int .u8)) (x := y_44.2.2.1) S rfl ty5 rfl rfl rfl R_111 ?_)
              clear S; intro a v_113 R_114 S
              obtain ⟨rfl, GR_114⟩ := RepV.int R_114
              refine wpList_nil ?_
              exact RPostG.mk_ S rfl S0 ⟨rfl, GR_114⟩ (Below.refl _ _)
            refine RunAllG.cons (isIG .u8 x_50) [(isIG .u8 y_44.2.2.1, 47)] rfl rfl ?_ ?_
            · intro M_ W_ hW hU_ hV_
              have S1 := S
              rintro _ ⟨rfl, hF_115⟩
              replace S1 := S1.put (by decide : 47 < 179) (.int .u8 y_44.2.2.1)
              refine fillG_nil S1 ?_; clear S1; intro a_ S1
              have S0 := S.defers; replace S := S1; clear S1
              refine w_go S rfl (op_quo S .u8 rfl rfl rfl rfl rfl ex_50 ?_)
              clear S; intro a S
              refine wpList_nil ?_
              exact RPostG.mk_ S rfl S0 ⟨rfl, (inR_quo ex_50)⟩ (Below.refl _ _)
            refine RunAllG.cons (isIG .u8 x_51) [(isIG .u8 x_50, 48)] rfl rfl ?_ ?_
            · intro M_ W_ hW hU_ hV_
              have S1 := S
              rintro _ ⟨rfl, hF_117⟩
              replace S1 := S1.put (by decide : 48 < 179) (.int .u8 x_50)
              refine fillG_nil S1 ?_; clear S1; intro a_ S1
              have S0 := S.defers; replace S := S1; clear S1
              refine w_go S rfl (op_rem S .u8 rfl rfl rfl rfl rfl ex_51 ?_)
              clear S; intro a S
              refine wpList_nil ?_
              exact RPostG.mk_ S rfl S0 ⟨rfl, (inR_rem ex_51)⟩ (Below.refl _ _)
            refine RunAllG.cons (eqvG (.bool (x_51 == 1))) [(isIG .u8 x_51, 49)] rfl rfl ?_ ?_
            · intro M_ W_ hW hU_ hV_
              have S1 := S
              rintro _ ⟨rfl, hF_119⟩
              replace S1 := S1.put (by decide : 49 < 179) (.int .u8 x_51)
              refine fillG_nil S1 ?_; clear S1; intro a_ S1
              have S0 := S.defers; replace S := S1; clear S1
              refine wl_pure (l' := [(50, .bool (x_51 == 1)), (49, .int .u8 x_51), (6, .int .i64 x_36), (5, .int .i64 c_1), (4, v_4), (3, v_7), (0, v0)]) S tys tys_ok 1 (by kernel_rfl) ?_; clear S; intro a S
              refine wpList_nil ?_
              exact RPostG.mk_ S rfl S0 rfl (Below.refl _ _)
            refine RunAllG.cons (isRepG (.sl gt0) K w.heap.size [32] [v_7.ownBlock, v_4.ownBlock] x0) [] rfl rfl ?_ ?_
            · intro M_ W_ hW hU_ hV_
              have S1 := S
              refine fillG_nil S1 ?_; clear S1; intro a_ S1
              replace R0 : RepV (.sl gt0) W_ (Kx K w.heap.size (lm [32] [v_7.ownBlock, v_4.ownBlock] M_)) v0 x0 := RepV.gr (g := (fun _ => none, w_24)) (RepV.lm0 R0) hW
              have S0 := S.defers; replace S := S1; clear S1
              refine wl_pure (l' := [(51, v0), (6, .int .i64 x_36), (5, .int .i64 c_1), (4, v_4), (3, v_7), (0, v0)]) S tys tys_ok 1 (by kernel_rfl) ?_; clear S; intro a S
              refine wpList_nil ?_
              exact RPostG.mk_ S rfl S0 R0 (Below.refl _ _)
            refine RunAllG.cons (isIG .i64 c_1) [] rfl rfl ?_ ?_
            · intro M_ W_ hW hU_ hV_
              have S1 := S
              refine fillG_nil S1 ?_; clear S1; intro a_ S1
              have S0 := S.defers; replace S := S1; clear S1
              refine wl_pure (l' := [(52, .int .i64 c_1), (6, .int .i64 x_36), (5, .int .i64 c_1), (4, v_4), (3, v_7), (0, v0)]) S tys tys_ok 1 (by kernel_rfl) ?_; clear S; intro a S
              refine wpList_nil ?_
              exact RPostG.mk_ S rfl S0 ⟨rfl, G_2⟩ (Below.refl _ _)
            refine RunAllG.cons (isElG gt0 K w.heap.size [32] [v_7.ownBlock, v_4.ownBlock] y_52) [(isRepG (.sl gt0) K w.heap.size [32] [v_7.ownBlock, v_4.ownBlock] x0, 51), (isIG .i64 c_1, 52)] rfl rfl ?_ ?_
            · intro M_ W_ hW hU_ hV_
              have S1 := S
              intro v_122 hF_121; replace hF_121 : RepV (.sl gt0) W_ (Kx K w.heap.size (lm [32] [v_7.ownBlock, v_4.ownBlock] M_)) v_122 x0 := hF_121
              replace S1 := S1.put (by decide : 51 < 179) (v_122)
              rintro _ ⟨rfl, hF_123⟩
              replace S1 := S1.put (by decide : 52 < 179) (.int .i64 c_1)
              refine fillG_nil S1 ?_; clear S1; intro a_ S1
              replace W : Wd w W_ (lm [32] [v_7.ownBlock, v_4.ownBlock] M_) := Gr.wd hW (Wd.lm0 _ W)
              have S0 := S.defers; replace S := S1; clear S1
              refine w_go S rfl (op_indexAddr S rfl ty23 rfl rfl rfl hF_121 rfl ey_52 ?_)
              clear S; intro a p_125 R_126 H_127 S
              refine wpList_nil ?_
              exact RPostG.mk_ S rfl S0 ⟨_, rfl, R_126, H_127⟩ (Below.refl _ _)
            refine RunAllG.cons (isElG (.int .u8) K w.heap.size [32] [v_7.ownBlock, v_4.ownBlock] y_52.2.2.1) [(isElG gt0 K w.heap.size [32] [v_7.ownBlock, v_4.ownBlock] y_52, 53)] rfl rfl ?_ ?_
            · intro M_ W_ hW hU_ hV_
              have S1 := S
              rintro _ ⟨p_130, rfl, R_131, H_132⟩; replace R_131 : RepAt gt0 W_ (Kx K w.heap.size (lm [32] [v_7.ownBlock, v_4.ownBlock] M_)) p_130 y_52 := R_131
              replace S1 := S1.put (by decide : 53 < 179) (.pointer (some p_130))
              refine fillG_nil S1 ?_; clear S1; intro a_ S1
              have S0 := S.defers; replace S := S1; clear S1
              refine wl_pure (l' := [(54, .pointer (some (p_130.add (coff gf0 2)))), (53, .pointer (some p_130)), (6, .int .i64 x_36), (5, .int .i64 c_1), (4, v_4), (3, v_7), (0, v0)]) S tys tys_ok 1 (by kernel_rfl) ?_; clear S; intro a S
              refine wpList_nil ?_
              exact RPostG.mk_ S rfl S0 ⟨_, rfl, (RepAt.add 2 (RepAt.st (t := gf0) R_131)), (by simpa [Addr.add] using H_132)⟩ (Below.refl _ _)
            refine RunAllG.cons (isIG .u8 y_52.2.2.1) [(isElG (.int .u8) K w.heap.size [32] [v_7.ownBlock, v_4.ownBlock] y_52.2.2.1, 54)] rfl rfl ?_ ?_
            · intro M_ W_ hW hU_ hV_
              have S1 := S
              rintro _ ⟨p_135, rfl, R_136, H_137⟩; replace R_136 : RepAt (.int .u8) W_ (Kx K w.heap.size (lm [32] [v_7.ownBlock, v_4.ownBlock] M_)) p_135 y_52.2.2.1 := R_136
              replace S1 := S1.put (by decide : 54 < 179) (.pointer (some p_135))
              refine fillG_nil S1 ?_; clear S1; intro a_ S1
              have S0 := S.defers; replace S := S1; clear S1
              refine w_go S rfl (op_load (t := (.int .u8)) (x := y_52.2.2.1) S rfl ty5 rfl rfl rfl R_136 ?_)
              clear S; intro a v_138 R_139 S
              obtain ⟨rfl, GR_139⟩ := RepV.int R_139
              refine wpList_nil ?_
              exact RPostG.mk_ S rfl S0 ⟨rfl, GR_139⟩ (Below.refl _ _)
            refine RunAllG.cons (isIG .u8 x_58) [(isIG .u8 y_52.2.2.1, 55)] rfl rfl ?_ ?_
            · intro M_ W_ hW hU_ hV_
              have S1 := S
              rintro _ ⟨rfl, hF_140⟩
              replace S1 := S1.put (by decide : 55 < 179) (.int .u8 y_52.2.2.1)
              refine fillG_nil S1 ?_; clear S1; intro a_ S1
              have S0 := S.defers; replace S := S1; clear S1
              refine w_go S rfl (op_quo S .u8 rfl rfl rfl rfl rfl ex_58 ?_)
              clear S; intro a S
              refine wpList_nil ?_
              exact RPostG.mk_ S rfl S0 ⟨rfl, (inR_quo ex_58)⟩ (Below.refl _ _)
            refine RunAllG.cons (isIG .u8 x_59) [(isIG .u8 x_58, 56)] rfl rfl ?_ ?_
            · intro M_ W_ hW hU_ hV_
              have S1 := S
              rintro _ ⟨rfl, hF_142⟩
              replace S1 := S1.put (by decide : 56 < 179) (.int .u8 x_58)
              refine fillG_nil S1 ?_; clear S1; intro a_ S1
              have S0 := S.defers; replace S := S1; clear S1
              refine w_go S rfl (op_rem S .u8 rfl rfl rfl rfl rfl ex_59 ?_)
              clear S; intro a S
              refine wpList_nil ?_
              exact RPostG.mk_ S rfl S0 ⟨rfl, (inR_rem ex_59)⟩ (Below.refl _ _)
            refine RunAllG.cons (eqvG (.bool (x_59 == 1))) [(isIG .u8 x_59, 57)] rfl rfl ?_ ?_
            · intro M_ W_ hW hU_ hV_
              have S1 := S
              rintro _ ⟨rfl, hF_144⟩
              replace S1 := S1.put (by decide : 57 < 179) (.int .u8 x_59)
              refine fillG_nil S1 ?_; clear S1; intro a_ S1
              have S0 := S.defers; replace S := S1; clear S1
              refine wl_pure (l' := [(58, .bool (x_59 == 1)), (57, .int .u8 x_59), (6, .int .i64 x_36), (5, .int .i64 c_1), (4, v_4), (3, v_7), (0, v0)]) S tys tys_ok 1 (by kernel_rfl) ?_; clear S; intro a S
              refine wpList_nil ?_
              exact RPostG.mk_ S rfl S0 rfl (Below.refl _ _)
            refine RunAllG.cons (isRepG (.sl gt0) K w.heap.size [32] [v_7.ownBlock, v_4.ownBlock] x0) [] rfl rfl ?_ ?_
            · intro M_ W_ hW hU_ hV_
              have S1 := S
              refine fillG_nil S1 ?_; clear S1; intro a_ S1
              replace R0 : RepV (.sl gt0) W_ (Kx K w.heap.size (lm [32] [v_7.ownBlock, v_4.ownBlock] M_)) v0 x0 := RepV.gr (g := (fun _ => none, w_24)) (RepV.lm0 R0) hW
              have S0 := S.defers; replace S := S1; clear S1
              refine wl_pure (l' := [(59, v0), (6, .int .i64 x_36), (5, .int .i64 c_1), (4, v_4), (3, v_7), (0, v0)]) S tys tys_ok 1 (by kernel_rfl) ?_; clear S; intro a S
              refine wpList_nil ?_
              exact RPostG.mk_ S rfl S0 R0 (Below.refl _ _)
            refine RunAllG.cons (isIG .i64 c_1) [] rfl rfl ?_ ?_
            · intro M_ W_ hW hU_ hV_
              have S1 := S
              refine fillG_nil S1 ?_; clear S1; intro a_ S1
              have S0 := S.defers; replace S := S1; clear S1
              refine wl_pure (l' := [(60, .int .i64 c_1), (6, .int .i64 x_36), (5, .int .i64 c_1), (4, v_4), (3, v_7), (0, v0)]) S tys tys_ok 1 (by kernel_rfl) ?_; clear S; intro a S
              refine wpList_nil ?_
              exact RPostG.mk_ S rfl S0 ⟨rfl, G_2⟩ (Below.refl _ _)
            refine RunAllG.cons (isElG gt0 K w.heap.size [32] [v_7.ownBlock, v_4.ownBlock] y_60) [(isRepG (.sl gt0) K w.heap.size [32] [v_7.ownBlock, v_4.ownBlock] x0, 59), (isIG .i64 c_1, 60)] rfl rfl ?_ ?_
            · intro M_ W_ hW hU_ hV_
              have S1 := S
              intro v_147 hF_146; replace hF_146 : RepV (.sl gt0) W_ (Kx K w.heap.size (lm [32] [v_7.ownBlock, v_4.ownBlock] M_)) v_147 x0 := hF_146
              replace S1 := S1.put (by decide : 59 < 179) (v_147)
              rintro _ ⟨rfl, hF_148⟩
              replace S1 := S1.put (by decide : 60 < 179) (.int .i64 c_1)
              refine fillG_nil S1 ?_; clear S1; intro a_ S1
              replace W : Wd w W_ (lm [32] [v_7.ownBlock, v_4.ownBlock] M_) := Gr.wd hW (Wd.lm0 _ W)
              have S0 := S.defers; replace S := S1; clear S1
              refine w_go S rfl (op_indexAddr S rfl ty23 rfl rfl rfl hF_146 rfl ey_60 ?_)
              clear S; intro a p_150 R_151 H_152 S
              refine wpList_nil ?_
              exact RPostG.mk_ S rfl S0 ⟨_, rfl, R_151, H_152⟩ (Below.refl _ _)
            refine RunAllG.cons (isElG (.int .u16) K w.heap.size [32] [v_7.ownBlock, v_4.ownBlock] y_60.2.2.2) [(isElG gt0 K w.heap.size [32] [v_7.ownBlock, v_4.ownBlock] y_60, 61)] rfl rfl ?_ ?_
            · intro M_ W_ hW hU_ hV_
              have S1 := S
              rintro _ ⟨p_155, rfl, R_156, H_157⟩; replace R_156 : RepAt gt0 W_ (Kx K w.heap.size (lm [32] [v_7.ownBlock, v_4.ownBlock] M_)) p_155 y_60 := R_156
              replace S1 := S1.put (by decide : 61 < 179) (.pointer (some p_155))
              refine fillG_nil S1 ?_; clear S1; intro a_ S1
              have S0 := S.defers; replace S := S1; clear S1
              refine wl_pure (l' := [(62, .pointer (some (p_155.add (coff gf0 3)))), (61, .pointer (some p_155)), (6, .int .i64 x_36), (5, .int .i64 c_1), (4, v_4), (3, v_7), (0, v0)]) S tys tys_ok 1 (by kernel_rfl) ?_; clear S; intro a S
              refine wpList_nil ?_
              exact RPostG.mk_ S rfl S0 ⟨_, rfl, (RepAt.add 3 (RepAt.st (t := gf0) R_156)), (by simpa [Addr.add] using H_157)⟩ (Below.refl _ _)
            refine RunAllG.cons (isIG .u16 y_60.2.2.2) [(isElG (.int .u16) K w.heap.size [32] [v_7.ownBlock, v_4.ownBlock] y_60.2.2.2, 62)] rfl rfl ?_ ?_
            · intro M_ W_ hW hU_ hV_
              have S1 := S
              rintro _ ⟨p_160, rfl, R_161, H_162⟩; replace R_161 : RepAt (.int .u16) W_ (Kx K w.heap.size (lm [32] [v_7.ownBlock, v_4.ownBlock] M_)) p_160 y_60.2.2.2 := R_161
              replace S1 := S1.put (by decide : 62 < 179) (.pointer (some p_160))
              refine fillG_nil S1 ?_; clear S1; intro a_ S1
              have S0 := S.defers; replace S := S1; clear S1
              refine w_go S rfl (op_load (t := (.int .u16)) (x := y_60.2.2.2) S rfl ty48 rfl rfl rfl R_161 ?_)
              clear S; intro a v_163 R_164 S
              obtain ⟨rfl, GR_164⟩ := RepV.int R_164
              refine wpList_nil ?_
              exact RPostG.mk_ S rfl S0 ⟨rfl, GR_164⟩ (Below.refl _ _)
            refine RunAllG.cons (isIG .i64 y_60.2.2.2) [(isIG .u16 y_60.2.2.2, 63)] rfl rfl ?_ ?_
            · intro M_ W_ hW hU_ hV_
              have S1 := S
              rintro _ ⟨rfl, hF_165⟩
              replace S1 := S1.put (by decide : 63 < 179) (.int .u16 y_60.2.2.2)
              refine fillG_nil S1 ?_; clear S1; intro a_ S1
              replace W : Wd w W_ (lm [32] [v_7.ownBlock, v_4.ownBlock] M_) := Gr.wd hW (Wd.lm0 _ W)
              have S0 := S.defers; replace S := S1; clear S1
              refine w_go S rfl (op_conv S .i64 .bool .bool rfl ty48 ty3 rfl rfl rfl (widen hF_165 (by decide)).1 ?_)
              clear S; intro a S
              refine wpList_nil ?_
              exact RPostG.mk_ S rfl S0 ⟨rfl, (widen hF_165 (by decide)).2⟩ (Below.refl _ _)
            refine RunAllG.cons (isIG .i64 x_66) [(isIG .i64 y_60.2.2.2, 64)] rfl rfl ?_ ?_
            · intro M_ W_ hW hU_ hV_
              have S1 := S
              rintro _ ⟨rfl, hF_167⟩
              replace S1 := S1.put (by decide : 64 < 179) (.int .i64 y_60.2.2.2)
              refine fillG_nil S1 ?_; clear S1; intro a_ S1
              have S0 := S.defers; replace S := S1; clear S1
              refine w_go S rfl (op_rem S .i64 rfl rfl rfl rfl rfl ex_66 ?_)
              clear S; intro a S
              refine wpList_nil ?_
              exact RPostG.mk_ S rfl S0 ⟨rfl, (inR_rem ex_66)⟩ (Below.refl _ _)
            refine RunAllG.cons (isRepG gt1 K w.heap.size [32] [v_7.ownBlock, v_4.ownBlock] (x_36, 0, (x_43 == 1), false, (x_51 == 1), (x_59 == 1), x_66)) [(isIG .i64 x_36, 35), (eqvG (.bool (x_43 == 1)), 42), (eqvG (.bool (x_51 == 1)), 50), (eqvG (.bool (x_59 == 1)), 58), (isIG .i64 x_66, 65)] rfl rfl ?_ ?_
            · intro M_ W_ hW hU_ hV_
              have S1 := S
              rintro _ ⟨rfl, hF_169⟩
              replace S1 := S1.put (by decide : 35 < 179) (.int .i64 x_36)
              intro v_172 hF_171; obtain rfl : .bool (x_43 == 1) = v_172 := Eq.symm hF_171
              replace S1 := S1.put (by decide : 42 < 179) (.bool (x_43 == 1))
              intro v_174 hF_173; obtain rfl : .bool (x_51 == 1) = v_174 := Eq.symm hF_173
              replace S1 := S1.put (by decide : 50 < 179) (.bool (x_51 == 1))
              intro v_176 hF_175; obtain rfl : .bool (x_59 == 1) = v_176 := Eq.symm hF_175
              replace S1 := S1.put (by decide : 58 < 179) (.bool (x_59 == 1))
              rintro _ ⟨rfl, hF_177⟩
              replace S1 := S1.put (by decide : 65 < 179) (.int .i64 x_66)
              refine fillG_nil S1 ?_; clear S1; intro a_ S1
              have S0 := S.defers; replace S := S1; clear S1
              refine w_go S rfl (op_build (K := (Kx K w.heap.size (lm [32] [v_7.ownBlock, v_4.ownBlock] M_))) (f := gf1) (z0 := (0, 0, false, false, false, false, 0)) (x := (x_36, 0, (x_43 == 1), false, (x_51 == 1), (x_59 == 1), x_66)) (vs := [.int .i64 x_36, .bool (x_43 == 1), .bool (x_51 == 1), .bool (x_59 == 1), .int .i64 x_66]) S _ rfl ty32 z32 (fun w K => ⟨[.int .i64 0], [.int .u8 0, .bool false, .bool false, .bool false, .bool false, .int .i64 0], rfl, ⟨rfl, by decide⟩, ⟨[.int .u8 0], [.bool false, .bool false, .bool false, .bool false, .int .i64 0], rfl, ⟨rfl, by decide⟩, ⟨[.bool false], [.bool false, .bool false, .bool false, .int .i64 0], rfl, rfl, ⟨[.bool false], [.bool false, .bool false, .int .i64 0], rfl, rfl, ⟨[.bool false], [.bool false, .int .i64 0], rfl, rfl, ⟨[.bool false], [.int .i64 0], rfl, rfl, ⟨rfl, by decide⟩⟩⟩⟩⟩⟩⟩) rfl rfl rfl [(0, .int .i64 x_36), (2, .bool (x_43 == 1)), (4, .bool (x_51 == 1)), (5, .bool (x_59 == 1)), (6, .int .i64 x_66)] rfl ⟨_, (RepV.mkInt hF_169), rfl, rfl, ⟨_, RepV.mkBool, rfl, rfl, ⟨_, RepV.mkBool, rfl, rfl, ⟨_, RepV.mkBool, rfl, rfl, ⟨_, (RepV.mkInt hF_177), rfl, rfl, rfl⟩⟩⟩⟩⟩ ?_)
              clear S; intro a v_179 R_180 S
              refine wpList_nil ?_
              exact RPostG.mk_ S rfl S0 R_180 (Below.refl _ _)
            refine RunAllG.cons (isBxG gt1 32 K w.heap.size [32] [v_7.ownBlock, v_4.ownBlock] 32 (0, 0, false, false, false, false, 0)) [] rfl rfl ?_ ?_
            · intro M_ W_ hW hU_ hV_
              have S1 := S
              refine fillG_nil S1 ?_; clear S1; intro a_ S1
              replace W : Wd w W_ (lm [32] [v_7.ownBlock, v_4.ownBlock] M_) := Gr.wd hW (Wd.lm0 _ W)
              have S0 := S.defers; replace S := S1; clear S1
              refine w_go S rfl (op_alloc (K := K) (n := w.heap.size) (L := (lm [32] [v_7.ownBlock, v_4.ownBlock] M_)) (t := gt1) (y := (0, 0, false, false, false, false, 0)) S rfl rfl rfl _ z32 (fun w K => ⟨[.int .i64 0], [.int .u8 0, .bool false, .bool false, .bool false, .bool false, .int .i64 0], rfl, ⟨rfl, by decide⟩, ⟨[.int .u8 0], [.bool false, .bool false, .bool false, .bool false, .int .i64 0], rfl, ⟨rfl, by decide⟩, ⟨[.bool false], [.bool false, .bool false, .bool false, .int .i64 0], rfl, rfl, ⟨[.bool false], [.bool false, .bool false, .int .i64 0], rfl, rfl, ⟨[.bool false], [.bool false, .int .i64 0], rfl, rfl, ⟨[.bool false], [.int .i64 0], rfl, rfl, ⟨rfl, by decide⟩⟩⟩⟩⟩⟩⟩) ?_)
              clear S; intro a w_183 b_181 hb_184 B_182 S
              refine wpList_nil ?_
              exact RPostG.lay S rfl S0 (some b_181) (NewB.newO hb_184) hU_ (by decide) (by decide) ⟨b_181, rfl, gupd_at, Bx.laid B_182 (by decide) (by decide)⟩
            exact trivial
          intro M_ w_185 hb_186
          refine EndEG.some_ rfl ?_
          rintro _ ⟨rfl, hF_187⟩
          replace S := S.put (by decide : 35 < 179) (.int .i64 x_36)
          refine EndEG.some_ rfl ?_
          intro v_190 hF_189; replace hF_189 : RepV (.sl gt0) w_185 (Kx K w.heap.size (lm [32] [v_7.ownBlock, v_4.ownBlock] M_)) v_190 x0 := hF_189
          replace S := S.put (by decide : 36 < 179) (v_190)
          refine EndEG.some_ rfl ?_
          rintro _ ⟨rfl, hF_191⟩
          replace S := S.put (by decide : 37 < 179) (.int .i64 c_1)
          refine EndEG.some_ rfl ?_
          rintro _ ⟨p_195, rfl, R_196, H_197⟩; replace R_196 : RepAt gt0 w_185 (Kx K w.heap.size (lm [32] [v_7.ownBlock, v_4.ownBlock] M_)) p_195 y_37 := R_196
          replace S := S.put (by decide : 38 < 179) (.pointer (some p_195))
          refine EndEG.some_ rfl ?_
          rintro _ ⟨p_200, rfl, R_201, H_202⟩; replace R_201 : RepAt (.int .u8) w_185 (Kx K w.heap.size (lm [32] [v_7.ownBlock, v_4.ownBlock] M_)) p_200 y_37.2.2.1 := R_201
          replace S := S.put (by decide : 39 < 179) (.pointer (some p_200))
          refine EndEG.some_ rfl ?_
          rintro _ ⟨rfl, hF_203⟩
          replace S := S.put (by decide : 40 < 179) (.int .u8 y_37.2.2.1)
          refine EndEG.some_ rfl ?_
          rintro _ ⟨rfl, hF_205⟩
          replace S := S.put (by decide : 41 < 179) (.int .u8 x_43)
          refine EndEG.some_ rfl ?_
          intro v_208 hF_207; obtain rfl : .bool (x_43 == 1) = v_208 := Eq.symm hF_207
          replace S := S.put (by decide : 42 < 179) (.bool (x_43 == 1))
          refine EndEG.some_ rfl ?_
          intro v_210 hF_209; replace hF_209 : RepV (.sl gt0) w_185 (Kx K w.heap.size (lm [32] [v_7.ownBlock, v_4.ownBlock] M_)) v_210 x0 := hF_209
          replace S := S.put (by decide : 43 < 179) (v_210)
          refine EndEG.some_ rfl ?_
          rintro _ ⟨rfl, hF_211⟩
          replace S := S.put (by decide : 44 < 179) (.int .i64 c_1)
          refine EndEG.some_ rfl ?_
          rintro _ ⟨p_215, rfl, R_216, H_217⟩; replace R_216 : RepAt gt0 w_185 (Kx K w.heap.size (lm [32] [v_7.ownBlock, v_4.ownBlock] M_)) p_215 y_44 := R_216
          replace S := S.put (by decide : 45 < 179) (.pointer (some p_215))
          refine EndEG.some_ rfl ?_
          rintro _ ⟨p_220, rfl, R_221, H_222⟩; replace R_221 : RepAt (.int .u8) w_185 (Kx K w.heap.size (lm [32] [v_7.ownBlock, v_4.ownBlock] M_)) p_220 y_44.2.2.1 := R_221
          replace S := S.put (by decide : 46 < 179) (.pointer (some p_220))
          refine EndEG.some_ rfl ?_
          rintro _ ⟨rfl, hF_223⟩
          replace S := S.put (by decide : 47 < 179) (.int .u8 y_44.2.2.1)
          refine EndEG.some_ rfl ?_
          rintro _ ⟨rfl, hF_225⟩
          replace S := S.put (by decide : 48 < 179) (.int .u8 x_50)
          refine EndEG.some_ rfl ?_
          rintro _ ⟨rfl, hF_227⟩
          replace S := S.put (by decide : 49 < 179) (.int .u8 x_51)
          refine EndEG.some_ rfl ?_
          intro v_230 hF_229; obtain rfl : .bool (x_51 == 1) = v_230 := Eq.symm hF_229
          replace S := S.put (by decide : 50 < 179) (.bool (x_51 == 1))
          refine EndEG.some_ rfl ?_
          intro v_232 hF_231; replace hF_231 : RepV (.sl gt0) w_185 (Kx K w.heap.size (lm [32] [v_7.ownBlock, v_4.ownBlock] M_)) v_232 x0 := hF_231
          replace S := S.put (by decide : 51 < 179) (v_232)
          refine EndEG.some_ rfl ?_
          rintro _ ⟨rfl, hF_233⟩
          replace S := S.put (by decide : 52 < 179) (.int .i64 c_1)
          refine EndEG.some_ rfl ?_
          rintro _ ⟨p_237, rfl, R_238, H_239⟩; replace R_238 : RepAt gt0 w_185 (Kx K w.heap.size (lm [32] [v_7.ownBlock, v_4.ownBlock] M_)) p_237 y_52 := R_238
          replace S := S.put (by decide : 53 < 179) (.pointer (some p_237))
          refine EndEG.some_ rfl ?_
          rintro _ ⟨p_242, rfl, R_243, H_244⟩; replace R_243 : RepAt (.int .u8) w_185 (Kx K w.heap.size (lm [32] [v_7.ownBlock, v_4.ownBlock] M_)) p_242 y_52.2.2.1 := R_243
          replace S := S.put (by decide : 54 < 179) (.pointer (some p_242))
          refine EndEG.some_ rfl ?_
          rintro _ ⟨rfl, hF_245⟩
          replace S := S.put (by decide : 55 < 179) (.int .u8 y_52.2.2.1)
          refine EndEG.some_ rfl ?_
          rintro _ ⟨rfl, hF_247⟩
          replace S := S.put (by decide : 56 < 179) (.int .u8 x_58)
          refine EndEG.some_ rfl ?_
          rintro _ ⟨rfl, hF_249⟩
          replace S := S.put (by decide : 57 < 179) (.int .u8 x_59)
          refine EndEG.some_ rfl ?_
          intro v_252 hF_251; obtain rfl : .bool (x_59 == 1) = v_252 := Eq.symm hF_251
          replace S := S.put (by decide : 58 < 179) (.bool (x_59 == 1))
          refine EndEG.some_ rfl ?_
          intro v_254 hF_253; replace hF_253 : RepV (.sl gt0) w_185 (Kx K w.heap.size (lm [32] [v_7.ownBlock, v_4.ownBlock] M_)) v_254 x0 := hF_253
          replace S := S.put (by decide : 59 < 179) (v_254)
          refine EndEG.some_ rfl ?_
          rintro _ ⟨rfl, hF_255⟩
          replace S := S.put (by decide : 60 < 179) (.int .i64 c_1)
          refine EndEG.some_ rfl ?_
          rintro _ ⟨p_259, rfl, R_260, H_261⟩; replace R_260 : RepAt gt0 w_185 (Kx K w.heap.size (lm [32] [v_7.ownBlock, v_4.ownBlock] M_)) p_259 y_60 := R_260
          replace S := S.put (by decide : 61 < 179) (.pointer (some p_259))
          refine EndEG.some_ rfl ?_
          rintro _ ⟨p_264, rfl, R_265, H_266⟩; replace R_265 : RepAt (.int .u16) w_185 (Kx K w.heap.size (lm [32] [v_7.ownBlock, v_4.ownBlock] M_)) p_264 y_60.2.2.2 := R_265
          replace S := S.put (by decide : 62 < 179) (.pointer (some p_264))
          refine EndEG.some_ rfl ?_
          rintro _ ⟨rfl, hF_267⟩
          replace S := S.put (by decide : 63 < 179) (.int .u16 y_60.2.2.2)
          refine EndEG.some_ rfl ?_
          rintro _ ⟨rfl, hF_269⟩
          replace S := S.put (by decide : 64 < 179) (.int .i64 y_60.2.2.2)
          refine EndEG.some_ rfl ?_
          rintro _ ⟨rfl, hF_271⟩
          replace S := S.put (by decide : 65 < 179) (.int .i64 x_66)
          refine EndEG.some_ rfl ?_
          intro v_274 hF_273; replace hF_273 : RepV gt1 w_185 (Kx K w.heap.size (lm [32] [v_7.ownBlock, v_4.ownBlock] M_)) v_274 (x_36, 0, (x_43 == 1), false, (x_51 == 1), (x_59 == 1), x_66) := hF_273
          replace S := S.put (by decide : 66 < 179) (v_274)
          refine EndEG.some_ rfl ?_
          rintro _ ⟨b_277, rfl, hF_275, B_278⟩; replace B_278 : Bx gt1 32 w_185 (Kx K w.heap.size (lm [32] [v_7.ownBlock, v_4.ownBlock] M_)) b_277 (0, 0, false, false, false, false, 0) := B_278
          replace hF_275 : M_ 32 = some (some b_277) := hF_275
          replace S := S.put (by decide : 7 < 179) (.pointer (some (⟨b_277, 0, .none⟩ : Addr)))
          refine endEG_nil S ?_; clear S; intro a S
          replace R0 : RepV (.sl gt0) w_185 (Kx K w.heap.size (lm [32] [v_7.ownBlock, v_4.ownBlock] M_)) v0 x0 := RepV.gr (g := (fun _ => none, w_24)) (RepV.lm0 R0) hb_186
          replace O_5 : Ow (.int .i64) 3 w_185 w.heap.size (Kx K w.heap.size (lm [32] [v_7.ownBlock, v_4.ownBlock] M_)) v_4 c_3 .none := Ow.gr (g := (fun _ => none, w_24)) (Ow.lm0 O_5) hb_186
          replace O_8 : Ow gt1 32 w_185 w.heap.size (Kx K w.heap.size (lm [32] [v_7.ownBlock, v_4.ownBlock] M_)) v_7 c_6 .none := Ow.gr (g := (fun _ => none, w_24)) (Ow.lm0 O_8) hb_186
          replace W : Wd w w_185 (lm [32] [v_7.ownBlock, v_4.ownBlock] M_) := Gr.wd hb_186 (Wd.lm0 _ W)
          have eL_ : lm [32] [v_7.ownBlock, v_4.ownBlock] M_ = [some b_277, v_7.ownBlock, v_4.ownBlock] := by simp [lm, hF_275]
          rw [eL_] at W
          rw [eL_] at R0
          rw [eL_] at hF_189
          rw [eL_] at R_196
          rw [eL_] at R_201
          rw [eL_] at hF_209
          rw [eL_] at R_216
          rw [eL_] at R_221
          rw [eL_] at hF_231
          rw [eL_] at R_238
          rw [eL_] at R_243
          rw [eL_] at hF_253
          rw [eL_] at R_260
          rw [eL_] at R_265
          rw [eL_] at hF_273
          rw [eL_] at B_278
          rw [eL_] at O_5
          rw [eL_] at O_8
          clear eL_
          refine w_go S rfl (op_store (t' := gt1) S rfl rfl ty32 rfl rfl rfl B_278 (by simp) Ln.whole hF_273 ?_)
          intro w_279 hw_280 B_
          replace R0 := R0.wrote hw_280 (by simp)
          replace hF_189 := hF_189.wrote hw_280 (by simp)
          replace hF_209 := hF_209.wrote hw_280 (by simp)
          replace hF_231 := hF_231.wrote hw_280 (by simp)
          replace hF_253 := hF_253.wrote hw_280 (by simp)
          replace hF_273 := hF_273.wrote hw_280 (by simp)
          replace O_5 := O_5.wrote hw_280 (by simp) (W.one (p := 2) (q := 0) (by decide) rfl rfl)
          replace O_8 := O_8.wrote hw_280 (by simp) (W.one (p := 1) (q := 0) (by decide) rfl rfl)
          replace W := W.wrote hw_280 (by simp)
          replace B_278 : Bx gt1 32 w_279 (Kx K w.heap.size [some b_277, v_7.ownBlock, v_4.ownBlock]) b_277 (x_36, 0, (x_43 == 1), false, (x_51 == 1), (x_59 == 1), x_66) := B_; clear B_
          refine wpList_nil ?_
          refine then_n ?_
          replace S := S.sub (l' := [(7, pB b_277), (6, .int .i64 x_36), (5, .int .i64 c_1), (4, v_4), (3, v_7), (0, v0)]) (by exact ⟨rfl, rfl, rfl, rfl, rfl, rfl, trivial⟩)
          refine wp_seq ?_
          refine wp_region_lit ?_
          refine wl_pure (l' := [(67, .pointer (some ((⟨b_277, 0, .none⟩ : Addr).add (coff gf1 2)))), (7, pB b_277), (6, .int .i64 x_36), (5, .int .i64 c_1), (4, v_4), (3, v_7), (0, v0)]) S tys tys_ok 1 (by kernel_rfl) ?_
          clear S; intro a S
          refine w_go S rfl (op_load (t := .bool) (x := (x_43 == 1)) S rfl ty4 rfl rfl rfl (RepAt.add 2 (RepAt.st (t := gf1) B_278.at_)) ?_)
          clear S; intro a v_281 R_282 S
          obtain rfl := RepV.bool R_282
          refine wl_pure (l' := [(69, .bool (x_43 == 1)), (68, .bool (x_43 == 1)), (67, .pointer (some ((⟨b_277, 0, .none⟩ : Addr).add (coff gf1 2)))), (7, pB b_277), (6, .int .i64 x_36), (5, .int .i64 c_1), (4, v_4), (3, v_7), (0, v0)]) S tys tys_ok 1 (by kernel_rfl) ?_
          clear S; intro a S
          obtain ⟨q_283, eq_283, hl_21⟩ := bindS hl_21
          refine seg 9 (fun a_ w_ => w_279 = w_ ∧ St 179 a_ [(78, .bool q_283), (7, pB b_277), (6, .int .i64 x_36), (5, .int .i64 c_1), (4, v_4), (3, v_7), (0, v0)]) ?_ ?_
          · by_cases hc : (x_43 == 1) = true
            · rw [if_pos hc] at eq_283; rw [hc] at S
              refine wl_pure (l' := [(71, .int .i64 c_1), (70, v0), (69, .bool true), (68, .bool true), (67, .pointer (some ((⟨b_277, 0, .none⟩ : Addr).add (coff gf1 2)))), (7, pB b_277), (6, .int .i64 x_36), (5, .int .i64 c_1), (4, v_4), (3, v_7), (0, v0)]) S tys tys_ok 2 (by kernel_rfl) ?_
              clear S; intro a S
              obtain ⟨y_284, ey_284, eq_283⟩ := bindS eq_283
              refine w_go S rfl (op_indexAddr S rfl ty23 rfl rfl rfl R0 rfl ey_284 ?_)
              clear S; intro a p_285 R_286 H_287 S
              refine wl_pure (l' := [(73, .pointer (some (p_285.add (coff gf0 2)))), (72, .pointer (some p_285)), (71, .int .i64 c_1), (70, v0), (69, .bool true), (68, .bool true), (67, .pointer (some ((⟨b_277, 0, .none⟩ : Addr).add (coff gf1 2)))), (7, pB b_277), (6, .int .i64 x_36), (5, .int .i64 c_1), (4, v_4), (3, v_7), (0, v0)]) S tys tys_ok 1 (by kernel_rfl) ?_
              clear S; intro a S
              refine w_go S rfl (op_load (t := (.int .u8)) (x := y_284.2.2.1) S rfl ty5 rfl rfl rfl (RepAt.add 2 (RepAt.st (t := gf0) R_286)) ?_)
              clear S; intro a v_288 R_289 S
              obtain ⟨rfl, GR_289⟩ := RepV.int R_289
              obtain ⟨x_290, ex_290, eq_283⟩ := bindS eq_283
              refine w_go S rfl (op_quo S .u8 rfl rfl rfl rfl rfl ex_290 ?_)
              clear S; intro a S
              obtain ⟨x_291, ex_291, eq_283⟩ := bindS eq_283
              refine w_go S rfl (op_rem S .u8 rfl rfl rfl rfl rfl ex_291 ?_)
              clear S; intro a S
              refine wl_pureK (l' := [(78, .bool (x_291 == 1)), (77, .bool (x_291 == 1)), (76, .int .u8 x_291), (75, .int .u8 x_290), (74, .int .u8 y_284.2.2.1), (73, .pointer (some (p_285.add (coff gf0 2)))), (72, .pointer (some p_285)), (71, .int .i64 c_1), (70, v0), (7, pB b_277), (6, .int .i64 x_36), (5, .int .i64 c_1), (4, v_4), (3, v_7), (0, v0)]) S tys tys_ok 2 [78, 77, 76, 75, 74, 73, 72, 71, 70, 7, 6, 5, 4, 3, 0] (by kernel_rfl) ?_
              clear S; intro a S
              obtain rfl := Option.some.inj eq_283
              exact ⟨rfl, S.sub (by exact ⟨rfl, rfl, rfl, rfl, rfl, rfl, rfl, trivial⟩)⟩
            · rw [if_neg hc] at eq_283; rw [show (x_43 == 1) = false from Bool.eq_false_iff.2 hc] at S
              refine wl_pureK (l' := [(78, .bool false), (77, undef), (76, undef), (75, undef), (74, undef), (73, undef), (72, undef), (71, undef), (70, undef), (7, pB b_277), (6, .int .i64 x_36), (5, .int .i64 c_1), (4, v_4), (3, v_7), (0, v0)]) S tys tys_ok 9 [78, 77, 76, 75, 74, 73, 72, 71, 70, 7, 6, 5, 4, 3, 0] (by kernel_rfl) ?_
              clear S; intro a S
              obtain rfl := Option.some.inj eq_283
              exact ⟨rfl, S.sub (by exact ⟨rfl, rfl, rfl, rfl, rfl, rfl, rfl, trivial⟩)⟩
          clear S eq_283; rintro a _ ⟨rfl, S⟩
          refine wl_pure (l' := [(79, .pointer (some ((⟨b_277, 0, .none⟩ : Addr).add (coff gf1 3)))), (78, .bool q_283), (7, pB b_277), (6, .int .i64 x_36), (5, .int .i64 c_1), (4, v_4), (3, v_7), (0, v0)]) S tys tys_ok 1 (by kernel_rfl) ?_
          clear S; intro a S
          refine w_go S rfl (op_store (t' := .bool) S rfl rfl ty4 rfl (addr_add1 _ _) rfl B_278 (by simp) (Ln.st (Ln.comp 3)) (RepV.mkBool : RepV .bool w_279 (Kx K w.heap.size [some b_277, v_7.ownBlock, v_4.ownBlock]) _ q_283) ?_)
          intro w_292 hw_293 B_
          replace R0 := R0.wrote hw_293 (by simp)
          replace O_5 := O_5.wrote hw_293 (by simp) (W.one (p := 2) (q := 0) (by decide) rfl rfl)
          replace O_8 := O_8.wrote hw_293 (by simp) (W.one (p := 1) (q := 0) (by decide) rfl rfl)
          replace W := W.wrote hw_293 (by simp)
          replace B_278 : Bx gt1 32 w_292 (Kx K w.heap.size [some b_277, v_7.ownBlock, v_4.ownBlock]) b_277 (x_36, 0, (x_43 == 1), q_283, (x_51 == 1), (x_59 == 1), x_66) := B_; clear B_
          refine wpList_nil ?_
          refine then_n ?_
          replace S := S.sub (l' := [(7, pB b_277), (6, .int .i64 x_36), (5, .int .i64 c_1), (4, v_4), (3, v_7), (0, v0)]) (by exact ⟨rfl, rfl, rfl, rfl, rfl, rfl, trivial⟩)
          refine wp_seq ?_
          refine wp_region_lit ?_
          refine wl_pure (l' := [(9, .int .i64 0), (8, .int .i64 7), (7, pB b_277), (6, .int .i64 x_36), (5, .int .i64 c_1), (4, v_4), (3, v_7), (0, v0)]) S tys tys_ok 2 (by kernel_rfl) ?_
          clear S; intro a S
          refine wpList_nil ?_
          refine then_n ?_
          refine wp_seq ?_
          refine wp_seq ?_
          refine wp_region_lit ?_
          refine wl_pure (l' := [(81, .bool (decide (x_36 ≥ 0))), (80, .int .i64 x_36), (9, .int .i64 0), (8, .int .i64 7), (7, pB b_277), (6, .int .i64 x_36), (5, .int .i64 c_1), (4, v_4), (3, v_7), (0, v0)]) S tys tys_ok 2 (by kernel_rfl) ?_
          clear S; intro a S
          refine wpList_nil ?_
          refine then_n ?_
          replace S := S.sub (l' := [(81, .bool (decide (x_36 ≥ 0))), (9, .int .i64 0), (8, .int .i64 7), (7, pB b_277), (6, .int .i64 x_36), (5, .int .i64 c_1), (4, v_4), (3, v_7), (0, v0)]) (by exact ⟨rfl, rfl, rfl, rfl, rfl, rfl, rfl, rfl, rfl, trivial⟩)
          refine wp_cond_split (S.eval (show ev _ _ = some (.bool (decide (x_36 ≥ 0))) from rfl)) ?_ ?_
          · intro hc
            rw [if_pos hc] at hl_21
            refine wp_seq ?_
            refine wp_seq ?_
            refine wp_region_lit ?_
            refine wl_pure (l' := [(83, .int .i64 x_36), (82, v_7), (81, .bool (decide (x_36 ≥ 0))), (9, .int .i64 0), (8, .int .i64 7), (7, pB b_277), (6, .int .i64 x_36), (5, .int .i64 c_1), (4, v_4), (3, v_7), (0, v0)]) S tys tys_ok 2 (by kernel_rfl) ?_
            clear S; intro a S
            obtain ⟨y_294, ey_294, hl_21⟩ := bindS hl_21
            refine w_go S rfl (op_indexAddr_own S rfl ty24 rfl rfl rfl O_8 rfl ey_294 ?_)
            clear S; intro a g_295 H_297 R_296 S
            refine wl_pureK (l' := [(85, .pointer (some ((⟨g_295, x_36.toNat * GT.sz gt1, .none⟩ : Addr).add (coff gf1 2)))), (8, .int .i64 7), (7, pB b_277), (6, .int .i64 x_36), (5, .int .i64 c_1), (4, v_4), (3, v_7), (0, v0)]) S tys tys_ok 1 [85, 8, 7, 6, 5, 4, 3, 0] (by kernel_rfl) ?_
            clear S; intro a S
            refine w_go S rfl (op_load (t := .bool) (x := y_294.2.2.1) S rfl ty4 rfl rfl rfl (RepAt.add 2 (RepAt.st (t := gf1) R_296)) ?_)
            clear S; intro a v_298 R_299 S
            obtain rfl := RepV.bool R_299
            refine wl_pure (l' := [(87, .bool (!y_294.2.2.1)), (86, .bool y_294.2.2.1), (85, .pointer (some ((⟨g_295, x_36.toNat * GT.sz gt1, .none⟩ : Addr).add (coff gf1 2)))), (8, .int .i64 7), (7, pB b_277), (6, .int .i64 x_36), (5, .int .i64 c_1), (4, v_4), (3, v_7), (0, v0)]) S tys tys_ok 1 (by kernel_rfl) ?_
            clear S; intro a S
            refine wpList_nil ?_
            refine then_n ?_
            replace S := S.sub (l' := [(87, .bool (!y_294.2.2.1)), (8, .int .i64 7), (7, pB b_277), (6, .int .i64 x_36), (5, .int .i64 c_1), (4, v_4), (3, v_7), (0, v0)]) (by exact ⟨rfl, rfl, rfl, rfl, rfl, rfl, rfl, rfl, trivial⟩)
            refine wp_cond_split (S.eval (show ev _ _ = some (.bool (!y_294.2.2.1)) from rfl)) ?_ ?_
            · intro hc
              rw [if_pos hc] at hl_21
              refine wp_exit ?_
              refine then_x ?_
              refine then_x ?_
              refine blk_hit ?_
              refine then_n ?_
              replace S := S.sub (l' := [(5, .int .i64 c_1), (4, v_4), (3, v_7), (0, v0)]) (by exact ⟨rfl, rfl, rfl, rfl, trivial⟩)
              refine wp_region_lit ?_
              refine wl_pure (l' := [(22, .int .i64 c_1), (5, .int .i64 c_1), (4, v_4), (3, v_7), (0, v0)]) S tys tys_ok 1 (by kernel_rfl) ?_
              clear S; intro a S
              obtain ⟨x_300, ex_300, hl_21⟩ := bindS hl_21
              refine w_go S rfl (op_arith S .i64 (c_1 + 1) rfl (.inl rfl) rfl rfl rfl rfl ex_300 ?_)
              clear S; intro a S
              refine wl_pure (l' := [(5, .int .i64 x_300), (23, .int .i64 x_300), (22, .int .i64 c_1), (5, .int .i64 c_1), (4, v_4), (3, v_7), (0, v0)]) S tys tys_ok 1 (by kernel_rfl) ?_
              clear S; intro a S
              refine wpList_nil ?_
              refine then_n ?_
              exact ⟨x_300, c_3, c_6, ⟨v_4, v_7, S.sub (by exact ⟨rfl, rfl, rfl, rfl, trivial⟩), (W.drop 1), (ckI_some ex_300).2.1, (R0.drop 1), (O_5.drop 1), (O_8.drop 1), hl_21⟩⟩
            · intro hc
              rw [if_neg (Bool.eq_false_iff.1 hc)] at hl_21
              refine wp_skip ?_
              refine then_n ?_
              replace S := S.sub (l' := [(8, .int .i64 7), (7, pB b_277), (6, .int .i64 x_36), (5, .int .i64 c_1), (4, v_4), (3, v_7), (0, v0)]) (by exact ⟨rfl, rfl, rfl, rfl, rfl, rfl, rfl, trivial⟩)
              refine wp_seq ?_
              refine wp_region_lit ?_
              refine wl_pure (l' := [(89, .int .i64 x_36), (88, v_4), (8, .int .i64 7), (7, pB b_277), (6, .int .i64 x_36), (5, .int .i64 c_1), (4, v_4), (3, v_7), (0, v0)]) S tys tys_ok 2 (by kernel_rfl) ?_
              clear S; intro a S
              obtain ⟨y_301, ey_301, hl_21⟩ := bindS hl_21
              refine w_go S rfl (op_indexAddr_own S rfl ty27 rfl rfl rfl O_5 rfl ey_301 ?_)
              clear S; intro a g_302 H_304 R_303 S
              refine w_go S rfl (op_load (t := (.int .i64)) (x := y_301) S rfl ty3 rfl rfl rfl R_303 ?_)
              clear S; intro a v_305 R_306 S
              obtain ⟨rfl, GR_306⟩ := RepV.int R_306
              refine wl_pureK (l' := [(9, .int .i64 y_301), (8, .int .i64 7), (7, pB b_277), (6, .int .i64 x_36), (5, .int .i64 c_1), (4, v_4), (3, v_7), (0, v0)]) S tys tys_ok 1 [9, 8, 7, 6, 5, 4, 3, 0] (by kernel_rfl) ?_
              clear S; intro a S
              refine wpList_nil ?_
              refine then_n ?_
              refine wp_seq ?_
              refine wp_seq ?_
              refine wp_region_lit ?_
              refine wl_pure (l' := [(93, .int .i64 x_36), (92, v_7), (9, .int .i64 y_301), (8, .int .i64 7), (7, pB b_277), (6, .int .i64 x_36), (5, .int .i64 c_1), (4, v_4), (3, v_7), (0, v0)]) S tys tys_ok 2 (by kernel_rfl) ?_
              clear S; intro a S
              obtain ⟨y_307, ey_307, hl_21⟩ := bindS hl_21
              refine w_go S rfl (op_indexAddr_own S rfl ty24 rfl rfl rfl O_8 rfl ey_307 ?_)
              clear S; intro a g_308 H_310 R_309 S
              refine wl_pureK (l' := [(95, .pointer (some ((⟨g_308, x_36.toNat * GT.sz gt1, .none⟩ : Addr).add (coff gf1 3)))), (9, .int .i64 y_301), (8, .int .i64 7), (7, pB b_277), (6, .int .i64 x_36), (5, .int .i64 c_1), (4, v_4), (3, v_7), (0, v0)]) S tys tys_ok 1 [95, 9, 8, 7, 6, 5, 4, 3, 0] (by kernel_rfl) ?_
              clear S; intro a S
              refine w_go S rfl (op_load (t := .bool) (x := y_307.2.2.2.1) S rfl ty4 rfl rfl rfl (RepAt.add 3 (RepAt.st (t := gf1) R_309)) ?_)
              clear S; intro a v_311 R_312 S
              obtain rfl := RepV.bool R_312
              refine wl_pure (l' := [(97, .bool (!y_307.2.2.2.1)), (96, .bool y_307.2.2.2.1), (95, .pointer (some ((⟨g_308, x_36.toNat * GT.sz gt1, .none⟩ : Addr).add (coff gf1 3)))), (9, .int .i64 y_301), (8, .int .i64 7), (7, pB b_277), (6, .int .i64 x_36), (5, .int .i64 c_1), (4, v_4), (3, v_7), (0, v0)]) S tys tys_ok 1 (by kernel_rfl) ?_
              clear S; intro a S
              refine wpList_nil ?_
              refine then_n ?_
              replace S := S.sub (l' := [(97, .bool (!y_307.2.2.2.1)), (9, .int .i64 y_301), (8, .int .i64 7), (7, pB b_277), (6, .int .i64 x_36), (5, .int .i64 c_1), (4, v_4), (3, v_7), (0, v0)]) (by exact ⟨rfl, rfl, rfl, rfl, rfl, rfl, rfl, rfl, rfl, trivial⟩)
              obtain ⟨j_313, ej_313, hl_21⟩ := bindS hl_21
              refine wp_cut_ (fun a_ w_ => St 179 a_ [(9, .int .i64 y_301), (8, .int .i64 j_313), (7, pB b_277), (6, .int .i64 x_36), (5, .int .i64 c_1), (4, v_4), (3, v_7), (0, v0)] ∧ Wd w w_ [some b_277, v_7.ownBlock, v_4.ownBlock] ∧ InR .i64 j_313 ∧ RepV (.sl gt0) w_ (Kx K w.heap.size [some b_277, v_7.ownBlock, v_4.ownBlock]) v0 x0 ∧ Bx gt1 32 w_ (Kx K w.heap.size [some b_277, v_7.ownBlock, v_4.ownBlock]) b_277 (x_36, 0, (x_43 == 1), q_283, (x_51 == 1), (x_59 == 1), x_66) ∧ Ow (.int .i64) 3 w_ w.heap.size (Kx K w.heap.size [some b_277, v_7.ownBlock, v_4.ownBlock]) v_4 c_3 .none ∧ Ow gt1 32 w_ w.heap.size (Kx K w.heap.size [some b_277, v_7.ownBlock, v_4.ownBlock]) v_7 c_6 .none) ?_ ?_
              · refine wp_cond_split (S.eval (show ev _ _ = some (.bool (!y_307.2.2.2.1)) from rfl)) ?_ ?_
                · intro hc
                  rw [if_pos hc] at ej_313
                  refine wp_region_lit ?_
                  refine wl_pure (l' := [(8, .int .i64 4), (97, .bool (!y_307.2.2.2.1)), (9, .int .i64 y_301), (8, .int .i64 7), (7, pB b_277), (6, .int .i64 x_36), (5, .int .i64 c_1), (4, v_4), (3, v_7), (0, v0)]) S tys tys_ok 1 (by kernel_rfl) ?_
                  clear S; intro a S
                  refine wpList_nil ?_
                  refine then_n ?_
                  obtain rfl := Option.some.inj ej_313
                  exact ⟨S.sub (by exact ⟨rfl, rfl, rfl, rfl, rfl, rfl, rfl, rfl, trivial⟩), W, (by decide), R0, B_278, O_5, O_8⟩
                · intro hc
                  rw [if_neg (Bool.eq_false_iff.1 hc)] at ej_313
                  refine wp_skip ?_
                  refine then_n ?_
                  obtain rfl := Option.some.inj ej_313
                  exact ⟨S.sub (by exact ⟨rfl, rfl, rfl, rfl, rfl, rfl, rfl, rfl, trivial⟩), W, (by decide), R0, B_278, O_5, O_8⟩
              clear S W; rintro a w_315 ⟨S, W, G_314, R0, B_278, O_5, O_8⟩
              refine then_n ?_
              refine wp_region_lit ?_
              refine wl_pure (l' := [(98, .pointer (some ((⟨b_277, 0, .none⟩ : Addr).add (coff gf1 5)))), (9, .int .i64 y_301), (8, .int .i64 j_313), (7, pB b_277), (6, .int .i64 x_36), (5, .int .i64 c_1), (4, v_4), (3, v_7), (0, v0)]) S tys tys_ok 1 (by kernel_rfl) ?_
              clear S; intro a S
              refine w_go S rfl (op_load (t := .bool) (x := (x_59 == 1)) S rfl ty4 rfl rfl rfl (RepAt.add 5 (RepAt.st (t := gf1) B_278.at_)) ?_)
              clear S; intro a v_316 R_317 S
              obtain rfl := RepV.bool R_317
              refine wl_pure (l' := [(100, .bool (x_59 == 1)), (99, .bool (x_59 == 1)), (98, .pointer (some ((⟨b_277, 0, .none⟩ : Addr).add (coff gf1 5)))), (9, .int .i64 y_301), (8, .int .i64 j_313), (7, pB b_277), (6, .int .i64 x_36), (5, .int .i64 c_1), (4, v_4), (3, v_7), (0, v0)]) S tys tys_ok 1 (by kernel_rfl) ?_
              clear S; intro a S
              obtain ⟨q_318, eq_318, hl_21⟩ := bindS hl_21
              refine seg 6 (fun a_ w_ => w_315 = w_ ∧ St 179 a_ [(106, .bool q_318), (9, .int .i64 y_301), (8, .int .i64 j_313), (7, pB b_277), (6, .int .i64 x_36), (5, .int .i64 c_1), (4, v_4), (3, v_7), (0, v0)]) ?_ ?_
              · by_cases hc : (x_59 == 1) = false
                · rw [if_pos hc] at eq_318; rw [hc] at S
                  refine wl_pure (l' := [(102, .int .i64 x_36), (101, v_7), (100, .bool false), (99, .bool false), (98, .pointer (some ((⟨b_277, 0, .none⟩ : Addr).add (coff gf1 5)))), (9, .int .i64 y_301), (8, .int .i64 j_313), (7, pB b_277), (6, .int .i64 x_36), (5, .int .i64 c_1), (4, v_4), (3, v_7), (0, v0)]) S tys tys_ok 2 (by kernel_rfl) ?_
                  clear S; intro a S
                  obtain ⟨y_319, ey_319, eq_318⟩ := bindS eq_318
                  refine w_go S rfl (op_indexAddr_own S rfl ty24 rfl rfl rfl O_8 rfl ey_319 ?_)
                  clear S; intro a g_320 H_322 R_321 S
                  refine wl_pure (l' := [(104, .pointer (some ((⟨g_320, x_36.toNat * GT.sz gt1, .none⟩ : Addr).add (coff gf1 5)))), (103, .pointer (some (⟨g_320, x_36.toNat * GT.sz gt1, .none⟩ : Addr))), (102, .int .i64 x_36), (101, v_7), (100, .bool false), (99, .bool false), (98, .pointer (some ((⟨b_277, 0, .none⟩ : Addr).add (coff gf1 5)))), (9, .int .i64 y_301), (8, .int .i64 j_313), (7, pB b_277), (6, .int .i64 x_36), (5, .int .i64 c_1), (4, v_4), (3, v_7), (0, v0)]) S tys tys_ok 1 (by kernel_rfl) ?_
                  clear S; intro a S
                  refine w_go S rfl (op_load (t := .bool) (x := y_319.2.2.2.2.2.1) S rfl ty4 rfl rfl rfl (RepAt.add 5 (RepAt.st (t := gf1) R_321)) ?_)
                  clear S; intro a v_323 R_324 S
                  obtain rfl := RepV.bool R_324
                  refine wl_pureK (l' := [(106, .bool y_319.2.2.2.2.2.1), (105, .bool y_319.2.2.2.2.2.1), (104, .pointer (some ((⟨g_320, x_36.toNat * GT.sz gt1, .none⟩ : Addr).add (coff gf1 5)))), (103, .pointer (some (⟨g_320, x_36.toNat * GT.sz gt1, .none⟩ : Addr))), (102, .int .i64 x_36), (101, v_7), (9, .int .i64 y_301), (8, .int .i64 j_313), (7, pB b_277), (6, .int .i64 x_36), (5, .int .i64 c_1), (4, v_4), (3, v_7), (0, v0)]) S tys tys_ok 1 [106, 105, 104, 103, 102, 101, 9, 8, 7, 6, 5, 4, 3, 0] (by kernel_rfl) ?_
                  clear S; intro a S
                  obtain rfl := Option.some.inj eq_318
                  exact ⟨rfl, S.sub (by exact ⟨rfl, rfl, rfl, rfl, rfl, rfl, rfl, rfl, rfl, trivial⟩)⟩
                · rw [if_neg hc] at eq_318; rw [show (x_59 == 1) = true from (by simpa using hc)] at S
                  refine wl_pureK (l' := [(106, .bool true), (105, undef), (104, undef), (103, undef), (102, undef), (101, undef), (9, .int .i64 y_301), (8, .int .i64 j_313), (7, pB b_277), (6, .int .i64 x_36), (5, .int .i64 c_1), (4, v_4), (3, v_7), (0, v0)]) S tys tys_ok 6 [106, 105, 104, 103, 102, 101, 9, 8, 7, 6, 5, 4, 3, 0] (by kernel_rfl) ?_
                  clear S; intro a S
                  obtain rfl := Option.some.inj eq_318
                  exact ⟨rfl, S.sub (by exact ⟨rfl, rfl, rfl, rfl, rfl, rfl, rfl, rfl, rfl, trivial⟩)⟩
              clear S eq_318; rintro a _ ⟨rfl, S⟩
              refine wl_pure (l' := [(107, .pointer (some ((⟨b_277, 0, .none⟩ : Addr).add (coff gf1 5)))), (106, .bool q_318), (9, .int .i64 y_301), (8, .int .i64 j_313), (7, pB b_277), (6, .int .i64 x_36), (5, .int .i64 c_1), (4, v_4), (3, v_7), (0, v0)]) S tys tys_ok 1 (by kernel_rfl) ?_
              clear S; intro a S
              refine w_go S rfl (op_store (t' := .bool) S rfl rfl ty4 rfl (addr_add1 _ _) rfl B_278 (by simp) (Ln.st (Ln.comp 5)) (RepV.mkBool : RepV .bool w_315 (Kx K w.heap.size [some b_277, v_7.ownBlock, v_4.ownBlock]) _ q_318) ?_)
              intro w_325 hw_326 B_
              replace R0 := R0.wrote hw_326 (by simp)
              replace O_5 := O_5.wrote hw_326 (by simp) (W.one (p := 2) (q := 0) (by decide) rfl rfl)
              replace O_8 := O_8.wrote hw_326 (by simp) (W.one (p := 1) (q := 0) (by decide) rfl rfl)
              replace W := W.wrote hw_326 (by simp)
              replace B_278 : Bx gt1 32 w_325 (Kx K w.heap.size [some b_277, v_7.ownBlock, v_4.ownBlock]) b_277 (x_36, 0, (x_43 == 1), q_283, (x_51 == 1), q_318, x_66) := B_; clear B_
              refine wpList_nil ?_
              refine then_n ?_
              replace S := S.sub (l' := [(9, .int .i64 y_301), (8, .int .i64 j_313), (7, pB b_277), (6, .int .i64 x_36), (5, .int .i64 c_1), (4, v_4), (3, v_7), (0, v0)]) (by exact ⟨rfl, rfl, rfl, rfl, rfl, rfl, rfl, rfl, trivial⟩)
              refine wp_seq ?_
              refine wp_seq ?_
              refine wp_region_lit ?_
              refine wl_pure (l' := [(108, .pointer (some ((⟨b_277, 0, .none⟩ : Addr).add (coff gf1 2)))), (9, .int .i64 y_301), (8, .int .i64 j_313), (7, pB b_277), (6, .int .i64 x_36), (5, .int .i64 c_1), (4, v_4), (3, v_7), (0, v0)]) S tys tys_ok 1 (by kernel_rfl) ?_
              clear S; intro a S
              refine w_go S rfl (op_load (t := .bool) (x := (x_43 == 1)) S rfl ty4 rfl rfl rfl (RepAt.add 2 (RepAt.st (t := gf1) B_278.at_)) ?_)
              clear S; intro a v_327 R_328 S
              obtain rfl := RepV.bool R_328
              refine wl_pure (l' := [(110, .bool (x_43 == 1)), (109, .bool (x_43 == 1)), (108, .pointer (some ((⟨b_277, 0, .none⟩ : Addr).add (coff gf1 2)))), (9, .int .i64 y_301), (8, .int .i64 j_313), (7, pB b_277), (6, .int .i64 x_36), (5, .int .i64 c_1), (4, v_4), (3, v_7), (0, v0)]) S tys tys_ok 1 (by kernel_rfl) ?_
              clear S; intro a S
              obtain ⟨q_329, eq_329, hl_21⟩ := bindS hl_21
              refine seg 3 (fun a_ w_ => w_325 = w_ ∧ St 179 a_ [(113, .bool q_329), (9, .int .i64 y_301), (8, .int .i64 j_313), (7, pB b_277), (6, .int .i64 x_36), (5, .int .i64 c_1), (4, v_4), (3, v_7), (0, v0)]) ?_ ?_
              · by_cases hc : (x_43 == 1) = true
                · rw [if_pos hc] at eq_329; rw [hc] at S
                  refine wl_pureK (l' := [(113, .bool (y_301 == 5)), (112, .bool (y_301 == 5)), (111, .int .i64 y_301), (9, .int .i64 y_301), (8, .int .i64 j_313), (7, pB b_277), (6, .int .i64 x_36), (5, .int .i64 c_1), (4, v_4), (3, v_7), (0, v0)]) S tys tys_ok 3 [113, 112, 111, 9, 8, 7, 6, 5, 4, 3, 0] (by kernel_rfl) ?_
                  clear S; intro a S
                  obtain rfl := Option.some.inj eq_329
                  exact ⟨rfl, S.sub (by exact ⟨rfl, rfl, rfl, rfl, rfl, rfl, rfl, rfl, rfl, trivial⟩)⟩
                · rw [if_neg hc] at eq_329; rw [show (x_43 == 1) = false from Bool.eq_false_iff.2 hc] at S
                  refine wl_pureK (l' := [(113, .bool false), (112, undef), (111, undef), (9, .int .i64 y_301), (8, .int .i64 j_313), (7, pB b_277), (6, .int .i64 x_36), (5, .int .i64 c_1), (4, v_4), (3, v_7), (0, v0)]) S tys tys_ok 3 [113, 112, 111, 9, 8, 7, 6, 5, 4, 3, 0] (by kernel_rfl) ?_
                  clear S; intro a S
                  obtain rfl := Option.some.inj eq_329
                  exact ⟨rfl, S.sub (by exact ⟨rfl, rfl, rfl, rfl, rfl, rfl, rfl, rfl, rfl, trivial⟩)⟩
              clear S eq_329; rintro a _ ⟨rfl, S⟩
              refine wpList_nil ?_
              refine then_n ?_
              obtain ⟨j_330, ej_330, hl_21⟩ := bindS hl_21
              refine wp_cut_ (fun a_ w_ => St 179 a_ [(9, .int .i64 y_301), (8, .int .i64 j_313), (7, pB b_277), (6, .int .i64 x_36), (5, .int .i64 c_1), (4, v_4), (3, v_7), (0, v0)] ∧ Wd w w_ [some b_277, v_7.ownBlock, v_4.ownBlock] ∧ RepV (.sl gt0) w_ (Kx K w.heap.size [some b_277, v_7.ownBlock, v_4.ownBlock]) v0 x0 ∧ Bx gt1 32 w_ (Kx K w.heap.size [some b_277, v_7.ownBlock, v_4.ownBlock]) b_277 j_330 ∧ Ow (.int .i64) 3 w_ w.heap.size (Kx K w.heap.size [some b_277, v_7.ownBlock, v_4.ownBlock]) v_4 c_3 .none ∧ Ow gt1 32 w_ w.heap.size (Kx K w.heap.size [some b_277, v_7.ownBlock, v_4.ownBlock]) v_7 c_6 .none) ?_ ?_
              · refine wp_cond_split (S.eval (show ev _ _ = some (.bool q_329) from rfl)) ?_ ?_
                · intro hc
                  rw [if_pos hc] at ej_330
                  refine wp_region_lit ?_
                  refine wl_pure (l' := [(114, .pointer (some ((⟨b_277, 0, .none⟩ : Addr).add (coff gf1 2)))), (113, .bool q_329), (9, .int .i64 y_301), (8, .int .i64 j_313), (7, pB b_277), (6, .int .i64 x_36), (5, .int .i64 c_1), (4, v_4), (3, v_7), (0, v0)]) S tys tys_ok 1 (by kernel_rfl) ?_
                  clear S; intro a S
                  refine w_go S rfl (op_store (t' := .bool) S rfl rfl ty4 rfl (addr_add1 _ _) rfl B_278 (by simp) (Ln.st (Ln.comp 2)) (RepV.mkBool : RepV .bool w_325 (Kx K w.heap.size [some b_277, v_7.ownBlock, v_4.ownBlock]) _ false) ?_)
                  intro w_331 hw_332 B_
                  replace R0 := R0.wrote hw_332 (by simp)
                  replace O_5 := O_5.wrote hw_332 (by simp) (W.one (p := 2) (q := 0) (by decide) rfl rfl)
                  replace O_8 := O_8.wrote hw_332 (by simp) (W.one (p := 1) (q := 0) (by decide) rfl rfl)
                  replace W := W.wrote hw_332 (by simp)
                  replace B_278 : Bx gt1 32 w_331 (Kx K w.heap.size [some b_277, v_7.ownBlock, v_4.ownBlock]) b_277 (x_36, 0, false, q_283, (x_51 == 1), q_318, x_66) := B_; clear B_
                  refine wl_pure (l' := [(115, .pointer (some ((⟨b_277, 0, .none⟩ : Addr).add (coff gf1 3)))), (114, .pointer (some ((⟨b_277, 0, .none⟩ : Addr).add (coff gf1 2)))), (113, .bool q_329), (9, .int .i64 y_301), (8, .int .i64 j_313), (7, pB b_277), (6, .int .i64 x_36), (5, .int .i64 c_1), (4, v_4), (3, v_7), (0, v0)]) S tys tys_ok 1 (by kernel_rfl) ?_
                  clear S; intro a S
                  refine w_go S rfl (op_store (t' := .bool) S rfl rfl ty4 rfl (addr_add1 _ _) rfl B_278 (by simp) (Ln.st (Ln.comp 3)) (RepV.mkBool : RepV .bool w_331 (Kx K w.heap.size [some b_277, v_7.ownBlock, v_4.ownBlock]) _ false) ?_)
                  intro w_333 hw_334 B_
                  replace R0 := R0.wrote hw_334 (by simp)
                  replace O_5 := O_5.wrote hw_334 (by simp) (W.one (p := 2) (q := 0) (by decide) rfl rfl)
                  replace O_8 := O_8.wrote hw_334 (by simp) (W.one (p := 1) (q := 0) (by decide) rfl rfl)
                  replace W := W.wrote hw_334 (by simp)
                  replace B_278 : Bx gt1 32 w_333 (Kx K w.heap.size [some b_277, v_7.ownBlock, v_4.ownBlock]) b_277 (x_36, 0, false, false, (x_51 == 1), q_318, x_66) := B_; clear B_
                  refine wpList_nil ?_
                  refine then_n ?_
                  obtain rfl := Option.some.inj ej_330
                  exact ⟨S.sub (by exact ⟨rfl, rfl, rfl, rfl, rfl, rfl, rfl, rfl, trivial⟩), W, R0, B_278, O_5, O_8⟩
                · intro hc
                  rw [if_neg (Bool.eq_false_iff.1 hc)] at ej_330
                  refine wp_skip ?_
                  refine then_n ?_
                  obtain rfl := Option.some.inj ej_330
                  exact ⟨S.sub (by exact ⟨rfl, rfl, rfl, rfl, rfl, rfl, rfl, rfl, trivial⟩), W, R0, B_278, O_5, O_8⟩
              clear S W; rintro a w_335 ⟨S, W, R0, B_278, O_5, O_8⟩
              refine then_n ?_
              refine wp_seq ?_
              refine wp_region_lit ?_
              refine w_go S rfl (op_alloc (K := K) (n := w.heap.size) (L := [some b_277, v_7.ownBlock, v_4.ownBlock]) (t := (.arr 8 (.int .i64))) (y := (List.replicate 8 (0 : Int))) S rfl rfl rfl _ z52 (fun w K => (rep_replicate (e := (.int .i64)) (z := 0) (cs := [.int .i64 0]) (⟨rfl, by decide⟩) 8)) ?_)
              clear S; intro a w_338 b_336 hb_339 B_337 S
              replace R0 := R0.box hb_339
              replace B_278 := B_278.box hb_339
              replace O_5 := O_5.box hb_339
              replace O_8 := O_8.box hb_339
              replace W := W.box hb_339
              refine wpList_nil ?_
              refine then_n ?_
              refine wp_seq ?_
              refine wp_seq ?_
              refine wp_region_lit ?_
              refine wl_pure (l' := [(11, .int .i64 0), (10, pB b_336), (9, .int .i64 y_301), (8, .int .i64 j_313), (7, pB b_277), (6, .int .i64 x_36), (5, .int .i64 c_1), (4, v_4), (3, v_7), (0, v0)]) S tys tys_ok 1 (by kernel_rfl) ?_
              clear S; intro a S
              refine wpList_nil ?_
              refine then_n ?_
              obtain ⟨y_346, ey_346, hl_21⟩ := bindS hl_21
              refine wp_cut_ (fun a_ w_ => St 179 a_ [(0, v0), (3, v_7), (4, v_4), (5, .int .i64 c_1), (7, pB b_277), (8, .int .i64 j_313), (9, .int .i64 y_301), (10, pB b_336)] ∧ Wd w w_ [some b_336, some b_277, v_7.ownBlock, v_4.ownBlock] ∧ RepV (.sl gt0) w_ (Kx K w.heap.size [some b_336, some b_277, v_7.ownBlock, v_4.ownBlock]) v0 x0 ∧ Bx gt1 32 w_ (Kx K w.heap.size [some b_336, some b_277, v_7.ownBlock, v_4.ownBlock]) b_277 j_330 ∧ Bx (.arr 8 (.int .i64)) 52 w_ (Kx K w.heap.size [some b_336, some b_277, v_7.ownBlock, v_4.ownBlock]) b_336 y_346 ∧ Ow gt1 32 w_ w.heap.size (Kx K w.heap.size [some b_336, some b_277, v_7.ownBlock, v_4.ownBlock]) v_7 c_6 .none ∧ Ow (.int .i64) 3 w_ w.heap.size (Kx K w.heap.size [some b_336, some b_277, v_7.ownBlock, v_4.ownBlock]) v_4 c_3 .none) ?_ ?_
              · refine wp_block ?_
                refine wp_loop_n (fun m_ a_ w_ => ∃ (c_340 : Int) (c_342 : List (Int)) , St 179 a_ [(11, .int .i64 c_340), (10, pB b_336), (9, .int .i64 y_301), (8, .int .i64 j_313), (7, pB b_277), (6, .int .i64 x_36), (5, .int .i64 c_1), (4, v_4), (3, v_7), (0, v0)] ∧ Wd w w_ [some b_336, some b_277, v_7.ownBlock, v_4.ownBlock] ∧ InR .i64 c_340 ∧ RepV (.sl gt0) w_ (Kx K w.heap.size [some b_336, some b_277, v_7.ownBlock, v_4.ownBlock]) v0 x0 ∧ Bx gt1 32 w_ (Kx K w.heap.size [some b_336, some b_277, v_7.ownBlock, v_4.ownBlock]) b_277 j_330 ∧ Bx (.arr 8 (.int .i64)) 52 w_ (Kx K w.heap.size [some b_336, some b_277, v_7.ownBlock, v_4.ownBlock]) b_336 c_342 ∧ Ow (.int .i64) 3 w_ w.heap.size (Kx K w.heap.size [some b_336, some b_277, v_7.ownBlock, v_4.ownBlock]) v_4 c_3 .none ∧ Ow gt1 32 w_ w.heap.size (Kx K w.heap.size [some b_336, some b_277, v_7.ownBlock, v_4.ownBlock]) v_7 c_6 .none ∧ p9_l2 n c_6 x_36 m_ c_340 c_342 = some y_346) n ?_ ?_
                · skip
                  exact ⟨0, (List.replicate 8 (0 : Int)), ⟨S.sub (by exact ⟨rfl, rfl, rfl, rfl, rfl, rfl, rfl, rfl, rfl, rfl, trivial⟩), W, (by decide), R0, B_278, B_337, O_5, O_8, ey_346⟩⟩
                · clear S W; rintro m_347 a w_349 ⟨c_340, c_342, S, W, G_341, R0, B_278, B_337, O_5, O_8, hl_348⟩
                  cases m_347 with
                  | zero => exact absurd hl_348 (by simp [p9_l2])
                  | succ m_347 =>
                    refine ⟨m_347, rfl, ?_⟩
                    rw [p9_l2] at hl_348
                    refine wp_seq ?_
                    refine wp_seq ?_
                    refine wp_region_lit ?_
                    refine wl_pure (l' := [(117, v_7), (116, .int .i64 c_340), (11, .int .i64 c_340), (10, pB b_336), (9, .int .i64 y_301), (8, .int .i64 j_313), (7, pB b_277), (6, .int .i64 x_36), (5, .int .i64 c_1), (4, v_4), (3, v_7), (0, v0)]) S tys tys_ok 2 (by kernel_rfl) ?_
                    clear S; intro a S
                    refine w_go S rfl (op_len (K := _) S rfl ty24 rfl rfl rfl O_8.read ?_)
                    clear S; intro a G_350 S
                    refine wl_pureK (l' := [(119, .bool (decide (c_340 < (lenI (⟨c_6, .none⟩ : Sl (Int × Int × Bool × Bool × Bool × Bool × Int)))))), (11, .int .i64 c_340), (10, pB b_336), (9, .int .i64 y_301), (8, .int .i64 j_313), (7, pB b_277), (6, .int .i64 x_36), (5, .int .i64 c_1), (4, v_4), (3, v_7), (0, v0)]) S tys tys_ok 1 [119, 11, 10, 9, 8, 7, 6, 5, 4, 3, 0] (by kernel_rfl) ?_
                    clear S; intro a S
                    refine wpList_nil ?_
                    refine then_n ?_
                    refine wp_cond_split (S.eval (show ev _ _ = some (.bool (decide (c_340 < (lenI (⟨c_6, .none⟩ : Sl (Int × Int × Bool × Bool × Bool × Bool × Int)))))) from rfl)) ?_ ?_
                    · intro hc
                      rw [if_pos hc] at hl_348
                      refine wp_skip ?_
                      refine then_n ?_
                      replace S := S.sub (l' := [(11, .int .i64 c_340), (10, pB b_336), (9, .int .i64 y_301), (8, .int .i64 j_313), (7, pB b_277), (6, .int .i64 x_36), (5, .int .i64 c_1), (4, v_4), (3, v_7), (0, v0)]) (by exact ⟨rfl, rfl, rfl, rfl, rfl, rfl, rfl, rfl, rfl, rfl, trivial⟩)
                      refine wp_seq ?_
                      refine wp_block ?_
                      refine wp_seq ?_
                      refine wp_region_lit ?_
                      refine wl_pure (l' := [(123, .int .i64 c_340), (122, v_7), (11, .int .i64 c_340), (10, pB b_336), (9, .int .i64 y_301), (8, .int .i64 j_313), (7, pB b_277), (6, .int .i64 x_36), (5, .int .i64 c_1), (4, v_4), (3, v_7), (0, v0)]) S tys tys_ok 2 (by kernel_rfl) ?_
                      clear S; intro a S
                      obtain ⟨y_351, ey_351, hl_348⟩ := bindS hl_348
                      refine w_go S rfl (op_indexAddr_own S rfl ty24 rfl rfl rfl O_8 rfl ey_351 ?_)
                      clear S; intro a g_352 H_354 R_353 S
                      refine wl_pureK (l' := [(125, .pointer (some ((⟨g_352, c_340.toNat * GT.sz gt1, .none⟩ : Addr).add (coff gf1 0)))), (11, .int .i64 c_340), (10, pB b_336), (9, .int .i64 y_301), (8, .int .i64 j_313), (7, pB b_277), (6, .int .i64 x_36), (5, .int .i64 c_1), (4, v_4), (3, v_7), (0, v0)]) S tys tys_ok 1 [125, 11, 10, 9, 8, 7, 6, 5, 4, 3, 0] (by kernel_rfl) ?_
                      clear S; intro a S
                      refine w_go S rfl (op_load (t := (.int .i64)) (x := y_351.1) S rfl ty3 rfl rfl rfl (RepAt.add 0 (RepAt.st (t := gf1) R_353)) ?_)
                      clear S; intro a v_355 R_356 S
                      obtain ⟨rfl, GR_356⟩ := RepV.int R_356
                      refine wl_pureK (l' := [(128, .bool (y_351.1 == x_36)), (11, .int .i64 c_340), (10, pB b_336), (9, .int .i64 y_301), (8, .int .i64 j_313), (7, pB b_277), (6, .int .i64 x_36), (5, .int .i64 c_1), (4, v_4), (3, v_7), (0, v0)]) S tys tys_ok 2 [128, 11, 10, 9, 8, 7, 6, 5, 4, 3, 0] (by kernel_rfl) ?_
                      clear S; intro a S
                      refine wpList_nil ?_
                      refine then_n ?_
                      obtain ⟨j_357, ej_357, hl_348⟩ := bindS hl_348
                      refine wp_cut_ (fun a_ w_ => St 179 a_ [(11, .int .i64 c_340), (10, pB b_336), (9, .int .i64 y_301), (8, .int .i64 j_313), (7, pB b_277), (6, .int .i64 x_36), (5, .int .i64 c_1), (4, v_4), (3, v_7), (0, v0)] ∧ Wd w w_ [some b_336, some b_277, v_7.ownBlock, v_4.ownBlock] ∧ RepV (.sl gt0) w_ (Kx K w.heap.size [some b_336, some b_277, v_7.ownBlock, v_4.ownBlock]) v0 x0 ∧ Bx gt1 32 w_ (Kx K w.heap.size [some b_336, some b_277, v_7.ownBlock, v_4.ownBlock]) b_277 j_330 ∧ Bx (.arr 8 (.int .i64)) 52 w_ (Kx K w.heap.size [some b_336, some b_277, v_7.ownBlock, v_4.ownBlock]) b_336 j_357 ∧ Ow (.int .i64) 3 w_ w.heap.size (Kx K w.heap.size [some b_336, some b_277, v_7.ownBlock, v_4.ownBlock]) v_4 c_3 .none ∧ Ow gt1 32 w_ w.heap.size (Kx K w.heap.size [some b_336, some b_277, v_7.ownBlock, v_4.ownBlock]) v_7 c_6 .none) ?_ ?_
                      · refine wp_cond_split (S.eval (show ev _ _ = some (.bool (y_351.1 == x_36)) from rfl)) ?_ ?_
                        · intro hc
                          rw [if_pos hc] at ej_357
                          refine wp_region_lit ?_
                          refine wl_pure (l' := [(130, .int .i64 c_340), (129, v_7), (128, .bool (y_351.1 == x_36)), (11, .int .i64 c_340), (10, pB b_336), (9, .int .i64 y_301), (8, .int .i64 j_313), (7, pB b_277), (6, .int .i64 x_36), (5, .int .i64 c_1), (4, v_4), (3, v_7), (0, v0)]) S tys tys_ok 2 (by kernel_rfl) ?_
                          clear S; intro a S
                          obtain ⟨y_358, ey_358, ej_357⟩ := bindS ej_357
                          refine w_go S rfl (op_indexAddr_own S rfl ty24 rfl rfl rfl O_8 rfl ey_358 ?_)
                          clear S; intro a g_359 H_361 R_360 S
                          refine wl_pureK (l' := [(132, .pointer (some ((⟨g_359, c_340.toNat * GT.sz gt1, .none⟩ : Addr).add (coff gf1 1)))), (11, .int .i64 c_340), (10, pB b_336), (9, .int .i64 y_301), (8, .int .i64 j_313), (7, pB b_277), (6, .int .i64 x_36), (5, .int .i64 c_1), (4, v_4), (3, v_7), (0, v0)]) S tys tys_ok 1 [132, 11, 10, 9, 8, 7, 6, 5, 4, 3, 0] (by kernel_rfl) ?_
                          clear S; intro a S
                          refine w_go S rfl (op_load (t := (.int .u8)) (x := y_358.2.1) S rfl ty5 rfl rfl rfl (RepAt.add 1 (RepAt.st (t := gf1) R_360)) ?_)
                          clear S; intro a v_362 R_363 S
                          obtain ⟨rfl, GR_363⟩ := RepV.int R_363
                          obtain ⟨y_364, ey_364, ej_357⟩ := bindS ej_357
                          refine w_go S rfl (op_indexAddr_arr S rfl ty52 rfl rfl rfl B_337.at_ rfl ey_364 ?_)
                          clear S; intro a S
                          refine w_go S rfl (op_store (t' := (.int .i64)) S rfl rfl ty3 rfl (addr_add1 _ _) rfl B_337 (by simp) (Ln.arr (n := 8) (by have h_ := (idx_some ey_364).2.2; have l_ := (B_337.at_).arr_len; omega) 0) ((RepV.mkInt (by decide)) : RepV (.int .i64) w_349 (Kx K w.heap.size [some b_336, some b_277, v_7.ownBlock, v_4.ownBlock]) _ 1) ?_)
                          intro w_365 hw_366 B_
                          replace R0 := R0.wrote hw_366 (by simp)
                          replace B_278 := B_278.wrote hw_366 (by simp) (W.bne (p := 1) (q := 0) (by decide) rfl rfl)
                          replace O_5 := O_5.wrote hw_366 (by simp) (W.one (p := 3) (q := 0) (by decide) rfl rfl)
                          replace O_8 := O_8.wrote hw_366 (by simp) (W.one (p := 2) (q := 0) (by decide) rfl rfl)
                          replace W := W.wrote hw_366 (by simp)
                          replace B_337 : Bx (.arr 8 (.int .i64)) 52 w_365 (Kx K w.heap.size [some b_336, some b_277, v_7.ownBlock, v_4.ownBlock]) b_336 (c_342.set y_358.2.1.toNat 1) := B_; clear B_
                          refine wpList_nil ?_
                          refine then_n ?_
                          obtain rfl := Option.some.inj ej_357
                          exact ⟨S.sub (by exact ⟨rfl, rfl, rfl, rfl, rfl, rfl, rfl, rfl, rfl, rfl, trivial⟩), W, R0, B_278, B_337, O_5, O_8⟩
                        · intro hc
                          rw [if_neg (Bool.eq_false_iff.1 hc)] at ej_357
                          refine wp_skip ?_
                          refine then_n ?_
                          obtain rfl := Option.some.inj ej_357
                          exact ⟨S.sub (by exact ⟨rfl, rfl, rfl, rfl, rfl, rfl, rfl, rfl, rfl, rfl, trivial⟩), W, R0, B_278, B_337, O_5, O_8⟩
                      clear S W; rintro a w_367 ⟨S, W, R0, B_278, B_337, O_5, O_8⟩
                      refine blk_n ?_
                      refine then_n ?_
                      refine wp_region_lit ?_
                      refine wl_pure (l' := [(120, .int .i64 c_340), (11, .int .i64 c_340), (10, pB b_336), (9, .int .i64 y_301), (8, .int .i64 j_313), (7, pB b_277), (6, .int .i64 x_36), (5, .int .i64 c_1), (4, v_4), (3, v_7), (0, v0)]) S tys tys_ok 1 (by kernel_rfl) ?_
                      clear S; intro a S
                      obtain ⟨x_368, ex_368, hl_348⟩ := bindS hl_348
                      refine w_go S rfl (op_arith S .i64 (c_340 + 1) rfl (.inl rfl) rfl rfl rfl rfl ex_368 ?_)
                      clear S; intro a S
                      refine wl_pure (l' := [(11, .int .i64 x_368), (121, .int .i64 x_368), (120, .int .i64 c_340), (11, .int .i64 c_340), (10, pB b_336), (9, .int .i64 y_301), (8, .int .i64 j_313), (7, pB b_277), (6, .int .i64 x_36), (5, .int .i64 c_1), (4, v_4), (3, v_7), (0, v0)]) S tys tys_ok 1 (by kernel_rfl) ?_
                      clear S; intro a S
                      refine wpList_nil ?_
                      refine then_n ?_
                      exact ⟨x_368, j_357, ⟨S.sub (by exact ⟨rfl, rfl, rfl, rfl, rfl, rfl, rfl, rfl, rfl, rfl, trivial⟩), W, (ckI_some ex_368).2.1, R0, B_278, B_337, O_5, O_8, hl_348⟩⟩
                    · intro hc
                      rw [if_neg (Bool.eq_false_iff.1 hc)] at hl_348
                      refine wp_exit ?_
                      refine then_x ?_
                      refine then_x ?_
                      refine blk_hit ?_
                      refine then_n ?_
                      obtain rfl := Option.some.inj hl_348
                      exact ⟨S.sub (by exact ⟨rfl, rfl, rfl, rfl, rfl, rfl, rfl, rfl, trivial⟩), W, R0, B_278, B_337, O_8, O_5⟩
              clear S W; rintro a w_369 ⟨S, W, R0, B_278, B_337, O_8, O_5⟩
              refine then_n ?_
              refine wp_seq ?_
              refine wp_seq ?_
              refine wp_region_lit ?_
              refine wl_pure (l' := [(12, .int .i64 0), (0, v0), (3, v_7), (4, v_4), (5, .int .i64 c_1), (7, pB b_277), (8, .int .i64 j_313), (9, .int .i64 y_301), (10, pB b_336)]) S tys tys_ok 1 (by kernel_rfl) ?_
              clear S; intro a S
              refine wpList_nil ?_
              refine then_n ?_
              obtain ⟨y_376, ey_376, hl_21⟩ := bindS hl_21
              refine wp_cut_ (fun a_ w_ => St 179 a_ [(0, v0), (3, v_7), (4, v_4), (5, .int .i64 c_1), (7, pB b_277), (9, .int .i64 y_301)] ∧ Wd w w_ [some b_336, some b_277, v_7.ownBlock, v_4.ownBlock] ∧ RepV (.sl gt0) w_ (Kx K w.heap.size [some b_336, some b_277, v_7.ownBlock, v_4.ownBlock]) v0 x0 ∧ Bx gt1 32 w_ (Kx K w.heap.size [some b_336, some b_277, v_7.ownBlock, v_4.ownBlock]) b_277 y_376 ∧ Bx (.arr 8 (.int .i64)) 52 w_ (Kx K w.heap.size [some b_336, some b_277, v_7.ownBlock, v_4.ownBlock]) b_336 y_346 ∧ Ow gt1 32 w_ w.heap.size (Kx K w.heap.size [some b_336, some b_277, v_7.ownBlock, v_4.ownBlock]) v_7 c_6 .none ∧ Ow (.int .i64) 3 w_ w.heap.size (Kx K w.heap.size [some b_336, some b_277, v_7.ownBlock, v_4.ownBlock]) v_4 c_3 .none) ?_ ?_
              · refine wp_block ?_
                refine wp_loop_n (fun m_ a_ w_ => ∃ (c_370 : Int) (c_372 : Int × Int × Bool × Bool × Bool × Bool × Int) , St 179 a_ [(12, .int .i64 c_370), (0, v0), (3, v_7), (4, v_4), (5, .int .i64 c_1), (7, pB b_277), (8, .int .i64 j_313), (9, .int .i64 y_301), (10, pB b_336)] ∧ Wd w w_ [some b_336, some b_277, v_7.ownBlock, v_4.ownBlock] ∧ InR .i64 c_370 ∧ RepV (.sl gt0) w_ (Kx K w.heap.size [some b_336, some b_277, v_7.ownBlock, v_4.ownBlock]) v0 x0 ∧ Bx gt1 32 w_ (Kx K w.heap.size [some b_336, some b_277, v_7.ownBlock, v_4.ownBlock]) b_277 c_372 ∧ Bx (.arr 8 (.int .i64)) 52 w_ (Kx K w.heap.size [some b_336, some b_277, v_7.ownBlock, v_4.ownBlock]) b_336 y_346 ∧ Ow gt1 32 w_ w.heap.size (Kx K w.heap.size [some b_336, some b_277, v_7.ownBlock, v_4.ownBlock]) v_7 c_6 .none ∧ Ow (.int .i64) 3 w_ w.heap.size (Kx K w.heap.size [some b_336, some b_277, v_7.ownBlock, v_4.ownBlock]) v_4 c_3 .none ∧ p9_l3 n x0 c_1 j_313 y_346 m_ c_370 c_372 = some y_376) n ?_ ?_
                · skip
                  exact ⟨0, j_330, ⟨S.sub (by exact ⟨rfl, rfl, rfl, rfl, rfl, rfl, rfl, rfl, rfl, trivial⟩), W, (by decide), R0, B_278, B_337, O_8, O_5, ey_376⟩⟩
                · clear S W; rintro m_377 a w_379 ⟨c_370, c_372, S, W, G_371, R0, B_278, B_337, O_8, O_5, hl_378⟩
                  cases m_377 with
                  | zero => exact absurd hl_378 (by simp [p9_l3])
                  | succ m_377 =>
                    refine ⟨m_377, rfl, ?_⟩
                    rw [p9_l3] at hl_378
                    refine wp_seq ?_
                    refine wp_seq ?_
                    refine wp_region_lit ?_
                    refine wl_pureK (l' := [(138, .bool (decide (c_370 < j_313))), (12, .int .i64 c_370), (0, v0), (3, v_7), (4, v_4), (5, .int .i64 c_1), (7, pB b_277), (8, .int .i64 j_313), (9, .int .i64 y_301), (10, pB b_336)]) S tys tys_ok 4 [138, 12, 0, 3, 4, 5, 7, 8, 9, 10] (by kernel_rfl) ?_
                    clear S; intro a S
                    obtain ⟨q_380, eq_380, hl_378⟩ := bindS hl_378
                    refine seg 4 (fun a_ w_ => w_379 = w_ ∧ St 179 a_ [(142, .bool q_380), (12, .int .i64 c_370), (0, v0), (3, v_7), (4, v_4), (5, .int .i64 c_1), (7, pB b_277), (8, .int .i64 j_313), (9, .int .i64 y_301), (10, pB b_336)]) ?_ ?_
                    · by_cases hc : (decide (c_370 < j_313)) = true
                      · rw [if_pos hc] at eq_380; rw [hc] at S
                        refine wl_pure (l' := [(139, .pointer (some ((⟨b_277, 0, .none⟩ : Addr).add (coff gf1 1)))), (138, .bool true), (12, .int .i64 c_370), (0, v0), (3, v_7), (4, v_4), (5, .int .i64 c_1), (7, pB b_277), (8, .int .i64 j_313), (9, .int .i64 y_301), (10, pB b_336)]) S tys tys_ok 1 (by kernel_rfl) ?_
                        clear S; intro a S
                        refine w_go S rfl (op_load (t := (.int .u8)) (x := c_372.2.1) S rfl ty5 rfl rfl rfl (RepAt.add 1 (RepAt.st (t := gf1) B_278.at_)) ?_)
                        clear S; intro a v_381 R_382 S
                        obtain ⟨rfl, GR_382⟩ := RepV.int R_382
                        refine wl_pure (l' := [(142, .bool (c_372.2.1 == 0)), (141, .bool (c_372.2.1 == 0)), (140, .int .u8 c_372.2.1), (139, .pointer (some ((⟨b_277, 0, .none⟩ : Addr).add (coff gf1 1)))), (138, .bool true), (12, .int .i64 c_370), (0, v0), (3, v_7), (4, v_4), (5, .int .i64 c_1), (7, pB b_277), (8, .int .i64 j_313), (9, .int .i64 y_301), (10, pB b_336)]) S tys tys_ok 2 (by kernel_rfl) ?_
                        clear S; intro a S
                        obtain rfl := Option.some.inj eq_380
                        exact ⟨rfl, S.sub (by exact ⟨rfl, rfl, rfl, rfl, rfl, rfl, rfl, rfl, rfl, rfl, trivial⟩)⟩
                      · rw [if_neg hc] at eq_380; rw [show (decide (c_370 < j_313)) = false from Bool.eq_false_iff.2 hc] at S
                        refine wl_pure (l' := [(142, .bool false), (141, undef), (140, undef), (139, undef), (138, .bool false), (12, .int .i64 c_370), (0, v0), (3, v_7), (4, v_4), (5, .int .i64 c_1), (7, pB b_277), (8, .int .i64 j_313), (9, .int .i64 y_301), (10, pB b_336)]) S tys tys_ok 4 (by kernel_rfl) ?_
                        clear S; intro a S
                        obtain rfl := Option.some.inj eq_380
                        exact ⟨rfl, S.sub (by exact ⟨rfl, rfl, rfl, rfl, rfl, rfl, rfl, rfl, rfl, rfl, trivial⟩)⟩
                    clear S eq_380; rintro a _ ⟨rfl, S⟩
                    refine wpList_nil ?_
                    refine then_n ?_
                    refine wp_cond_split (S.eval (show ev _ _ = some (.bool q_380) from rfl)) ?_ ?_
                    · intro hc
                      rw [if_pos hc] at hl_378
                      refine wp_skip ?_
                      refine then_n ?_
                      replace S := S.sub (l' := [(12, .int .i64 c_370), (0, v0), (3, v_7), (4, v_4), (5, .int .i64 c_1), (7, pB b_277), (8, .int .i64 j_313), (9, .int .i64 y_301), (10, pB b_336)]) (by exact ⟨rfl, rfl, rfl, rfl, rfl, rfl, rfl, rfl, rfl, trivial⟩)
                      refine wp_seq ?_
                      refine wp_block ?_
                      refine wp_seq ?_
                      refine wp_region_lit ?_
                      refine wl_pure (l' := [(146, .int .i64 c_1), (145, v0), (12, .int .i64 c_370), (0, v0), (3, v_7), (4, v_4), (5, .int .i64 c_1), (7, pB b_277), (8, .int .i64 j_313), (9, .int .i64 y_301), (10, pB b_336)]) S tys tys_ok 2 (by kernel_rfl) ?_
                      clear S; intro a S
                      obtain ⟨y_383, ey_383, hl_378⟩ := bindS hl_378
                      refine w_go S rfl (op_indexAddr S rfl ty23 rfl rfl rfl R0 rfl ey_383 ?_)
                      clear S; intro a p_384 R_385 H_386 S
                      refine wl_pureK (l' := [(148, .pointer (some (p_384.add (coff gf0 1)))), (12, .int .i64 c_370), (0, v0), (3, v_7), (4, v_4), (5, .int .i64 c_1), (7, pB b_277), (8, .int .i64 j_313), (9, .int .i64 y_301), (10, pB b_336)]) S tys tys_ok 1 [148, 12, 0, 3, 4, 5, 7, 8, 9, 10] (by kernel_rfl) ?_
                      clear S; intro a S
                      refine w_go S rfl (op_load (t := (.int .u8)) (x := y_383.2.1) S rfl ty5 rfl rfl rfl (RepAt.add 1 (RepAt.st (t := gf0) R_385)) ?_)
                      clear S; intro a v_387 R_388 S
                      obtain ⟨rfl, GR_388⟩ := RepV.int R_388
                      refine w_go S rfl (op_conv S .i64 .bool .bool rfl ty5 ty3 rfl rfl rfl (widen GR_388 (by decide)).1 ?_)
                      clear S; intro a S
                      refine wl_pure (l' := [(151, .int .i64 c_370), (150, .int .i64 y_383.2.1), (149, .int .u8 y_383.2.1), (148, .pointer (some (p_384.add (coff gf0 1)))), (12, .int .i64 c_370), (0, v0), (3, v_7), (4, v_4), (5, .int .i64 c_1), (7, pB b_277), (8, .int .i64 j_313), (9, .int .i64 y_301), (10, pB b_336)]) S tys tys_ok 1 (by kernel_rfl) ?_
                      clear S; intro a S
                      obtain ⟨x_389, ex_389, hl_378⟩ := bindS hl_378
                      refine w_go S rfl (op_arith S .i64 (y_383.2.1 + c_370) rfl (.inl rfl) rfl rfl rfl rfl ex_389 ?_)
                      clear S; intro a S
                      refine wl_pureK (l' := [(153, .int .i64 j_313), (152, .int .i64 x_389), (12, .int .i64 c_370), (0, v0), (3, v_7), (4, v_4), (5, .int .i64 c_1), (7, pB b_277), (8, .int .i64 j_313), (9, .int .i64 y_301), (10, pB b_336)]) S tys tys_ok 1 [153, 152, 12, 0, 3, 4, 5, 7, 8, 9, 10] (by kernel_rfl) ?_
                      clear S; intro a S
                      obtain ⟨x_390, ex_390, hl_378⟩ := bindS hl_378
                      refine w_go S rfl (op_rem S .i64 rfl rfl rfl rfl rfl ex_390 ?_)
                      clear S; intro a S
                      obtain ⟨x_391, ex_391, hl_378⟩ := bindS hl_378
                      refine w_go S rfl (op_arith S .i64 (1 + x_390) rfl (.inl rfl) rfl rfl rfl rfl ex_391 ?_)
                      clear S; intro a S
                      refine wl_pureK (l' := [(13, .int .i64 x_391), (12, .int .i64 c_370), (0, v0), (3, v_7), (4, v_4), (5, .int .i64 c_1), (7, pB b_277), (8, .int .i64 j_313), (9, .int .i64 y_301), (10, pB b_336)]) S tys tys_ok 1 [13, 12, 0, 3, 4, 5, 7, 8, 9, 10] (by kernel_rfl) ?_
                      clear S; intro a S
                      refine wpList_nil ?_
                      refine then_n ?_
                      refine wp_seq ?_
                      refine wp_region_lit ?_
                      refine wl_pure (l' := [(156, .int .i64 x_391), (13, .int .i64 x_391), (12, .int .i64 c_370), (0, v0), (3, v_7), (4, v_4), (5, .int .i64 c_1), (7, pB b_277), (8, .int .i64 j_313), (9, .int .i64 y_301), (10, pB b_336)]) S tys tys_ok 1 (by kernel_rfl) ?_
                      clear S; intro a S
                      obtain ⟨y_392, ey_392, hl_378⟩ := bindS hl_378
                      refine w_go S rfl (op_indexAddr_arr S rfl ty52 rfl rfl rfl B_337.at_ rfl ey_392 ?_)
                      clear S; intro a S
                      refine w_go S rfl (op_load (t := (.int .i64)) (x := y_392) S rfl ty3 rfl rfl rfl (RepAt.ix B_337.at_ ey_392) ?_)
                      clear S; intro a v_393 R_394 S
                      obtain ⟨rfl, GR_394⟩ := RepV.int R_394
                      refine wl_pureK (l' := [(159, .bool (y_392 == 0)), (13, .int .i64 x_391), (12, .int .i64 c_370), (0, v0), (3, v_7), (4, v_4), (5, .int .i64 c_1), (7, pB b_277), (8, .int .i64 j_313), (9, .int .i64 y_301), (10, pB b_336)]) S tys tys_ok 1 [159, 13, 12, 0, 3, 4, 5, 7, 8, 9, 10] (by kernel_rfl) ?_
                      clear S; intro a S
                      refine wpList_nil ?_
                      refine then_n ?_
                      obtain ⟨j_395, ej_395, hl_378⟩ := bindS hl_378
                      refine wp_cut_ (fun a_ w_ => St 179 a_ [(12, .int .i64 c_370), (0, v0), (3, v_7), (4, v_4), (5, .int .i64 c_1), (7, pB b_277), (8, .int .i64 j_313), (9, .int .i64 y_301), (10, pB b_336)] ∧ Wd w w_ [some b_336, some b_277, v_7.ownBlock, v_4.ownBlock] ∧ RepV (.sl gt0) w_ (Kx K w.heap.size [some b_336, some b_277, v_7.ownBlock, v_4.ownBlock]) v0 x0 ∧ Bx gt1 32 w_ (Kx K w.heap.size [some b_336, some b_277, v_7.ownBlock, v_4.ownBlock]) b_277 j_395 ∧ Bx (.arr 8 (.int .i64)) 52 w_ (Kx K w.heap.size [some b_336, some b_277, v_7.ownBlock, v_4.ownBlock]) b_336 y_346 ∧ Ow gt1 32 w_ w.heap.size (Kx K w.heap.size [some b_336, some b_277, v_7.ownBlock, v_4.ownBlock]) v_7 c_6 .none ∧ Ow (.int .i64) 3 w_ w.heap.size (Kx K w.heap.size [some b_336, some b_277, v_7.ownBlock, v_4.ownBlock]) v_4 c_3 .none) ?_ ?_
                      · refine wp_cond_split (S.eval (show ev _ _ = some (.bool (y_392 == 0)) from rfl)) ?_ ?_
                        · intro hc
                          rw [if_pos hc] at ej_395
                          refine wp_region_lit ?_
                          refine wl_pureK (l' := [(162, .pointer (some ((⟨b_277, 0, .none⟩ : Addr).add (coff gf1 1)))), (161, .int .u8 (IntKind.wrap .u8 x_391)), (12, .int .i64 c_370), (0, v0), (3, v_7), (4, v_4), (5, .int .i64 c_1), (7, pB b_277), (8, .int .i64 j_313), (9, .int .i64 y_301), (10, pB b_336)]) S tys tys_ok 3 [162, 161, 12, 0, 3, 4, 5, 7, 8, 9, 10] (by kernel_rfl) ?_
                          clear S; intro a S
                          refine w_go S rfl (op_store (t' := (.int .u8)) S rfl rfl ty5 rfl (addr_add1 _ _) rfl B_278 (by simp) (Ln.st (Ln.comp 1)) ((RepV.mkInt (inR_wrap _ _)) : RepV (.int .u8) w_379 (Kx K w.heap.size [some b_336, some b_277, v_7.ownBlock, v_4.ownBlock]) _ (IntKind.wrap .u8 x_391)) ?_)
                          intro w_396 hw_397 B_
                          replace R0 := R0.wrote hw_397 (by simp)
                          replace B_337 := B_337.wrote hw_397 (by simp) (W.bne (p := 0) (q := 1) (by decide) rfl rfl)
                          replace O_8 := O_8.wrote hw_397 (by simp) (W.one (p := 2) (q := 1) (by decide) rfl rfl)
                          replace O_5 := O_5.wrote hw_397 (by simp) (W.one (p := 3) (q := 1) (by decide) rfl rfl)
                          replace W := W.wrote hw_397 (by simp)
                          replace B_278 : Bx gt1 32 w_396 (Kx K w.heap.size [some b_336, some b_277, v_7.ownBlock, v_4.ownBlock]) b_277 (c_372.1, IntKind.wrap .u8 x_391, c_372.2.2.1, c_372.2.2.2.1, c_372.2.2.2.2.1, c_372.2.2.2.2.2.1, c_372.2.2.2.2.2.2) := B_; clear B_
                          refine wpList_nil ?_
                          refine then_n ?_
                          obtain rfl := Option.some.inj ej_395
                          exact ⟨S.sub (by exact ⟨rfl, rfl, rfl, rfl, rfl, rfl, rfl, rfl, rfl, trivial⟩), W, R0, B_278, B_337, O_8, O_5⟩
                        · intro hc
                          rw [if_neg (Bool.eq_false_iff.1 hc)] at ej_395
                          refine wp_skip ?_
                          refine then_n ?_
                          obtain rfl := Option.some.inj ej_395
                          exact ⟨S.sub (by exact ⟨rfl, rfl, rfl, rfl, rfl, rfl, rfl, rfl, rfl, trivial⟩), W, R0, B_278, B_337, O_8, O_5⟩
                      clear S W; rintro a w_398 ⟨S, W, R0, B_278, B_337, O_8, O_5⟩
                      refine blk_n ?_
                      refine then_n ?_
                      refine wp_region_lit ?_
                      refine wl_pure (l' := [(143, .int .i64 c_370), (12, .int .i64 c_370), (0, v0), (3, v_7), (4, v_4), (5, .int .i64 c_1), (7, pB b_277), (8, .int .i64 j_313), (9, .int .i64 y_301), (10, pB b_336)]) S tys tys_ok 1 (by kernel_rfl) ?_
                      clear S; intro a S
                      obtain ⟨x_399, ex_399, hl_378⟩ := bindS hl_378
                      refine w_go S rfl (op_arith S .i64 (c_370 + 1) rfl (.inl rfl) rfl rfl rfl rfl ex_399 ?_)
                      clear S; intro a S
                      refine wl_pure (l' := [(12, .int .i64 x_399), (144, .int .i64 x_399), (143, .int .i64 c_370), (12, .int .i64 c_370), (0, v0), (3, v_7), (4, v_4), (5, .int .i64 c_1), (7, pB b_277), (8, .int .i64 j_313), (9, .int .i64 y_301), (10, pB b_336)]) S tys tys_ok 1 (by kernel_rfl) ?_
                      clear S; intro a S
                      refine wpList_nil ?_
                      refine then_n ?_
                      exact ⟨x_399, j_395, ⟨S.sub (by exact ⟨rfl, rfl, rfl, rfl, rfl, rfl, rfl, rfl, rfl, trivial⟩), W, (ckI_some ex_399).2.1, R0, B_278, B_337, O_8, O_5, hl_378⟩⟩
                    · intro hc
                      rw [if_neg (Bool.eq_false_iff.1 hc)] at hl_378
                      refine wp_exit ?_
                      refine then_x ?_
                      refine then_x ?_
                      refine blk_hit ?_
                      refine then_n ?_
                      obtain rfl := Option.some.inj hl_378
                      exact ⟨S.sub (by exact ⟨rfl, rfl, rfl, rfl, rfl, rfl, trivial⟩), W, R0, B_278, B_337, O_8, O_5⟩
              clear S W; rintro a w_400 ⟨S, W, R0, B_278, B_337, O_8, O_5⟩
              refine then_n ?_
              refine wp_seq ?_
              refine wp_seq ?_
              refine wp_region_lit ?_
              refine wl_pure (l' := [(163, .pointer (some ((⟨b_277, 0, .none⟩ : Addr).add (coff gf1 1)))), (0, v0), (3, v_7), (4, v_4), (5, .int .i64 c_1), (7, pB b_277), (9, .int .i64 y_301)]) S tys tys_ok 1 (by kernel_rfl) ?_
              clear S; intro a S
              refine w_go S rfl (op_load (t := (.int .u8)) (x := y_376.2.1) S rfl ty5 rfl rfl rfl (RepAt.add 1 (RepAt.st (t := gf1) B_278.at_)) ?_)
              clear S; intro a v_401 R_402 S
              obtain ⟨rfl, GR_402⟩ := RepV.int R_402
              refine wl_pure (l' := [(165, .bool (y_376.2.1 == 0)), (164, .int .u8 y_376.2.1), (163, .pointer (some ((⟨b_277, 0, .none⟩ : Addr).add (coff gf1 1)))), (0, v0), (3, v_7), (4, v_4), (5, .int .i64 c_1), (7, pB b_277), (9, .int .i64 y_301)]) S tys tys_ok 1 (by kernel_rfl) ?_
              clear S; intro a S
              refine wpList_nil ?_
              refine then_n ?_
              replace S := S.sub (l' := [(165, .bool (y_376.2.1 == 0)), (0, v0), (3, v_7), (4, v_4), (5, .int .i64 c_1), (7, pB b_277), (9, .int .i64 y_301)]) (by exact ⟨rfl, rfl, rfl, rfl, rfl, rfl, rfl, trivial⟩)
              refine wp_cond_split (S.eval (show ev _ _ = some (.bool (y_376.2.1 == 0)) from rfl)) ?_ ?_
              · intro hc
                rw [if_pos hc] at hl_21
                refine wp_exit ?_
                refine then_x ?_
                refine blk_hit ?_
                refine then_n ?_
                replace S := S.sub (l' := [(0, v0), (3, v_7), (4, v_4), (5, .int .i64 c_1)]) (by exact ⟨rfl, rfl, rfl, rfl, trivial⟩)
                refine wp_region_lit ?_
                refine wl_pure (l' := [(22, .int .i64 c_1), (0, v0), (3, v_7), (4, v_4), (5, .int .i64 c_1)]) S tys tys_ok 1 (by kernel_rfl) ?_
                clear S; intro a S
                obtain ⟨x_403, ex_403, hl_21⟩ := bindS hl_21
                refine w_go S rfl (op_arith S .i64 (c_1 + 1) rfl (.inl rfl) rfl rfl rfl rfl ex_403 ?_)
                clear S; intro a S
                refine wl_pure (l' := [(5, .int .i64 x_403), (23, .int .i64 x_403), (22, .int .i64 c_1), (0, v0), (3, v_7), (4, v_4), (5, .int .i64 c_1)]) S tys tys_ok 1 (by kernel_rfl) ?_
                clear S; intro a S
                refine wpList_nil ?_
                refine then_n ?_
                exact ⟨x_403, c_3, c_6, ⟨v_4, v_7, S.sub (by exact ⟨rfl, rfl, rfl, rfl, trivial⟩), (W.drop 2), (ckI_some ex_403).2.1, (R0.drop 2), (O_5.drop 2), (O_8.drop 2), hl_21⟩⟩
              · intro hc
                rw [if_neg (Bool.eq_false_iff.1 hc)] at hl_21
                refine wp_skip ?_
                refine then_n ?_
                replace S := S.sub (l' := [(0, v0), (3, v_7), (4, v_4), (5, .int .i64 c_1), (7, pB b_277), (9, .int .i64 y_301)]) (by exact ⟨rfl, rfl, rfl, rfl, rfl, rfl, trivial⟩)
                refine wp_seq ?_
                refine wp_region_lit ?_
                refine wl_pure (l' := [(166, v_7), (0, v0), (3, v_7), (4, v_4), (5, .int .i64 c_1), (7, pB b_277), (9, .int .i64 y_301)]) S tys tys_ok 1 (by kernel_rfl) ?_
                clear S; intro a S
                refine w_go S rfl (op_load (t := gt1) (x := y_376) S rfl ty32 rfl rfl rfl B_278.at_ ?_)
                clear S; intro a v_404 R_405 S
                refine w_go S rfl (op_buildSlice (K := K) (e := gt1) (vs := [v_404]) (xs := [y_376]) S W rfl ty24 rfl rfl (by kernel_rfl) rfl rfl rfl rfl rfl ⟨R_405, trivial⟩ ?_)
                clear S; intro a w_409 v_406 hb_408 R_407 S
                replace R0 := R0.step hb_408
                replace R_405 := R_405.step hb_408
                replace B_278 := B_278.step hb_408
                replace B_337 := B_337.step hb_408
                replace O_8 := O_8.step hb_408
                replace O_5 := O_5.step hb_408
                replace W := W.step hb_408
                obtain ⟨l_410, el_410, hl_21⟩ := bindS hl_21
                refine w_go S rfl (op_append S W (E := 32) 2 rfl ty24 un24 by24 rfl rfl rfl rfl O_8 rfl R_407 el_410 ?_)
                clear S; intro a w_412 v_411 A_413 O_414 S
                replace R0 : RepV (.sl gt0) w_412 (Kx K w.heap.size [some b_336, some b_277, v_411.ownBlock, v_4.ownBlock]) v0 x0 := R0.apd A_413 (i := 2) rfl
                replace R_405 : RepV gt1 w_412 (Kx K w.heap.size [some b_336, some b_277, v_411.ownBlock, v_4.ownBlock]) v_404 y_376 := R_405.apd A_413 (i := 2) rfl
                replace R_407 : RepV (.sl gt1) w_412 (Kx K w.heap.size [some b_336, some b_277, v_411.ownBlock, v_4.ownBlock]) v_406 (⟨[y_376], some 1⟩ : Sl (Int × Int × Bool × Bool × Bool × Bool × Int)) := R_407.apd A_413 (i := 2) rfl
                replace B_278 : Bx gt1 32 w_412 (Kx K w.heap.size [some b_336, some b_277, v_411.ownBlock, v_4.ownBlock]) b_277 y_376 := B_278.apd W A_413 (i := 2) rfl (j := 1) rfl (by decide)
                replace B_337 : Bx (.arr 8 (.int .i64)) 52 w_412 (Kx K w.heap.size [some b_336, some b_277, v_411.ownBlock, v_4.ownBlock]) b_336 y_346 := B_337.apd W A_413 (i := 2) rfl (j := 0) rfl (by decide)
                replace O_5 : Ow (.int .i64) 3 w_412 w.heap.size (Kx K w.heap.size [some b_336, some b_277, v_411.ownBlock, v_4.ownBlock]) v_4 c_3 .none := O_5.apd W A_413 (i := 2) rfl (j := 3) rfl (by decide)
                replace W : Wd w w_412 [some b_336, some b_277, v_411.ownBlock, v_4.ownBlock] := W.apd A_413 (i := 2) rfl
                replace O_414 : Ow gt1 32 w_412 w.heap.size (Kx K w.heap.size [some b_336, some b_277, v_411.ownBlock, v_4.ownBlock]) v_411 l_410 (capA .none l_410.length) := O_414
                refine wl_pureK (l' := [(3, v_411), (0, v0), (3, v_7), (4, v_4), (5, .int .i64 c_1), (7, pB b_277), (9, .int .i64 y_301)]) S tys tys_ok 1 [3, 0, 4, 5, 7, 9] (by kernel_rfl) ?_
                clear S; intro a S
                refine wpList_nil ?_
                refine then_n ?_
                refine wp_seq ?_
                refine wp_seq ?_
                refine wp_region_lit ?_
                refine wl_pure (l' := [(170, .pointer (some ((⟨b_277, 0, .none⟩ : Addr).add (coff gf1 2)))), (3, v_411), (0, v0), (3, v_7), (4, v_4), (5, .int .i64 c_1), (7, pB b_277), (9, .int .i64 y_301)]) S tys tys_ok 1 (by kernel_rfl) ?_
                clear S; intro a S
                refine w_go S rfl (op_load (t := .bool) (x := y_376.2.2.1) S rfl ty4 rfl rfl rfl (RepAt.add 2 (RepAt.st (t := gf1) B_278.at_)) ?_)
                clear S; intro a v_415 R_416 S
                obtain rfl := RepV.bool R_416
                refine wpList_nil ?_
                refine then_n ?_
                replace S := S.sub (l' := [(171, .bool y_376.2.2.1), (3, v_411), (0, v0), (4, v_4), (5, .int .i64 c_1), (9, .int .i64 y_301)]) (by exact ⟨rfl, rfl, rfl, rfl, rfl, rfl, trivial⟩)
                obtain ⟨j_417, ej_417, hl_21⟩ := bindS hl_21
                refine wp_cut_ (fun a_ w_ => St 179 a_ [(3, v_411), (0, v0), (4, v_4), (5, .int .i64 c_1), (9, .int .i64 j_417)] ∧ Wd w w_ [some b_336, some b_277, v_411.ownBlock, v_4.ownBlock] ∧ InR .i64 j_417 ∧ RepV (.sl gt0) w_ (Kx K w.heap.size [some b_336, some b_277, v_411.ownBlock, v_4.ownBlock]) v0 x0 ∧ Bx gt1 32 w_ (Kx K w.heap.size [some b_336, some b_277, v_411.ownBlock, v_4.ownBlock]) b_277 y_376 ∧ Bx (.arr 8 (.int .i64)) 52 w_ (Kx K w.heap.size [some b_336, some b_277, v_411.ownBlock, v_4.ownBlock]) b_336 y_346 ∧ Ow gt1 32 w_ w.heap.size (Kx K w.heap.size [some b_336, some b_277, v_411.ownBlock, v_4.ownBlock]) v_411 l_410 (capA .none l_410.length) ∧ Ow (.int .i64) 3 w_ w.heap.size (Kx K w.heap.size [some b_336, some b_277, v_411.ownBlock, v_4.ownBlock]) v_4 c_3 .none) ?_ ?_
                · refine wp_cond_split (S.eval (show ev _ _ = some (.bool y_376.2.2.1) from rfl)) ?_ ?_
                  · intro hc
                    rw [if_pos hc] at ej_417
                    refine wp_region_lit ?_
                    refine wl_pure (l' := [(172, .int .i64 y_301), (171, .bool y_376.2.2.1), (3, v_411), (0, v0), (4, v_4), (5, .int .i64 c_1), (9, .int .i64 y_301)]) S tys tys_ok 1 (by kernel_rfl) ?_
                    clear S; intro a S
                    obtain ⟨x_419, ex_419, ej_417⟩ := bindS ej_417
                    refine w_go S rfl (op_arith S .i64 (y_301 + 1) rfl (.inl rfl) rfl rfl rfl rfl ex_419 ?_)
                    clear S; intro a S
                    refine wl_pureK (l' := [(9, .int .i64 x_419), (3, v_411), (0, v0), (4, v_4), (5, .int .i64 c_1), (9, .int .i64 y_301)]) S tys tys_ok 1 [9, 3, 0, 4, 5] (by kernel_rfl) ?_
                    clear S; intro a S
                    refine wpList_nil ?_
                    refine then_n ?_
                    obtain rfl := Option.some.inj ej_417
                    exact ⟨S.sub (by exact ⟨rfl, rfl, rfl, rfl, rfl, trivial⟩), W, (ckI_some ex_419).2.1, R0, B_278, B_337, O_414, O_5⟩
                  · intro hc
                    rw [if_neg (Bool.eq_false_iff.1 hc)] at ej_417
                    refine wp_skip ?_
                    refine then_n ?_
                    obtain rfl := Option.some.inj ej_417
                    exact ⟨S.sub (by exact ⟨rfl, rfl, rfl, rfl, rfl, trivial⟩), W, GR_306, R0, B_278, B_337, O_414, O_5⟩
                clear S W; rintro a w_420 ⟨S, W, G_418, R0, B_278, B_337, O_414, O_5⟩
                refine then_n ?_
                refine wp_region_lit ?_
                refine wl_pure (l' := [(175, .int .i64 j_417), (174, v_4), (3, v_411), (0, v0), (4, v_4), (5, .int .i64 c_1), (9, .int .i64 j_417)]) S tys tys_ok 2 (by kernel_rfl) ?_
                clear S; intro a S
                refine w_go S rfl (op_buildSlice (K := K) (e := (.int .i64)) (vs := [.int .i64 j_417]) (xs := [j_417]) S W rfl ty27 rfl rfl (by kernel_rfl) rfl rfl rfl rfl rfl ⟨(RepV.mkInt G_418), trivial⟩ ?_)
                clear S; intro a w_424 v_421 hb_423 R_422 S
                replace R0 := R0.step hb_423
                replace B_278 := B_278.step hb_423
                replace B_337 := B_337.step hb_423
                replace O_414 := O_414.step hb_423
                replace O_5 := O_5.step hb_423
                replace W := W.step hb_423
                obtain ⟨l_425, el_425, hl_21⟩ := bindS hl_21
                refine w_go S rfl (op_append S W (E := 3) 3 rfl ty27 un27 by27 rfl rfl rfl rfl O_5 rfl R_422 el_425 ?_)
                clear S; intro a w_427 v_426 A_428 O_429 S
                replace R0 : RepV (.sl gt0) w_427 (Kx K w.heap.size [some b_336, some b_277, v_411.ownBlock, v_426.ownBlock]) v0 x0 := R0.apd A_428 (i := 3) rfl
                replace R_422 : RepV (.sl (.int .i64)) w_427 (Kx K w.heap.size [some b_336, some b_277, v_411.ownBlock, v_426.ownBlock]) v_421 (⟨[j_417], some 1⟩ : Sl (Int)) := R_422.apd A_428 (i := 3) rfl
                replace B_278 : Bx gt1 32 w_427 (Kx K w.heap.size [some b_336, some b_277, v_411.ownBlock, v_426.ownBlock]) b_277 y_376 := B_278.apd W A_428 (i := 3) rfl (j := 1) rfl (by decide)
                replace B_337 : Bx (.arr 8 (.int .i64)) 52 w_427 (Kx K w.heap.size [some b_336, some b_277, v_411.ownBlock, v_426.ownBlock]) b_336 y_346 := B_337.apd W A_428 (i := 3) rfl (j := 0) rfl (by decide)
                replace O_414 : Ow gt1 32 w_427 w.heap.size (Kx K w.heap.size [some b_336, some b_277, v_411.ownBlock, v_426.ownBlock]) v_411 l_410 (capA .none l_410.length) := O_414.apd W A_428 (i := 3) rfl (j := 2) rfl (by decide)
                replace W : Wd w w_427 [some b_336, some b_277, v_411.ownBlock, v_426.ownBlock] := W.apd A_428 (i := 3) rfl
                replace O_429 : Ow (.int .i64) 3 w_427 w.heap.size (Kx K w.heap.size [some b_336, some b_277, v_411.ownBlock, v_426.ownBlock]) v_426 l_425 (capA .none l_425.length) := O_429
                refine wl_pureK (l' := [(4, v_426), (3, v_411), (0, v0), (4, v_4), (5, .int .i64 c_1)]) S tys tys_ok 1 [4, 3, 0, 5] (by kernel_rfl) ?_
                clear S; intro a S
                refine wpList_nil ?_
                refine blk_n ?_
                refine then_n ?_
                refine wp_region_lit ?_
                refine wl_pure (l' := [(22, .int .i64 c_1), (4, v_426), (3, v_411), (0, v0), (4, v_4), (5, .int .i64 c_1)]) S tys tys_ok 1 (by kernel_rfl) ?_
                clear S; intro a S
                obtain ⟨x_430, ex_430, hl_21⟩ := bindS hl_21
                refine w_go S rfl (op_arith S .i64 (c_1 + 1) rfl (.inl rfl) rfl rfl rfl rfl ex_430 ?_)
                clear S; intro a S
                refine wl_pure (l' := [(5, .int .i64 x_430), (23, .int .i64 x_430), (22, .int .i64 c_1), (4, v_426), (3, v_411), (0, v0), (4, v_4), (5, .int .i64 c_1)]) S tys tys_ok 1 (by kernel_rfl) ?_
                clear S; intro a S
                refine wpList_nil ?_
                refine then_n ?_
                exact ⟨x_430, l_425, l_410, ⟨v_426, v_411, S.sub (by exact ⟨rfl, rfl, rfl, rfl, trivial⟩), (W.drop 2), (ckI_some ex_430).2.1, (R0.drop 2), (O_429.drop 2).forget, (O_414.drop 2).forget, hl_21⟩⟩
          · intro hc
            rw [if_neg (Bool.eq_false_iff.1 hc)] at hl_21
            refine wp_skip ?_
            refine then_n ?_
            replace S := S.sub (l' := [(9, .int .i64 0), (8, .int .i64 7), (7, pB b_277), (6, .int .i64 x_36), (5, .int .i64 c_1), (4, v_4), (3, v_7), (0, v0)]) (by exact ⟨rfl, rfl, rfl, rfl, rfl, rfl, rfl, rfl, trivial⟩)
            refine wp_seq ?_
            refine wp_seq ?_
            refine wp_region_lit ?_
            refine wl_pure (l' := [(108, .pointer (some ((⟨b_277, 0, .none⟩ : Addr).add (coff gf1 2)))), (9, .int .i64 0), (8, .int .i64 7), (7, pB b_277), (6, .int .i64 x_36), (5, .int .i64 c_1), (4, v_4), (3, v_7), (0, v0)]) S tys tys_ok 1 (by kernel_rfl) ?_
            clear S; intro a S
            refine w_go S rfl (op_load (t := .bool) (x := (x_43 == 1)) S rfl ty4 rfl rfl rfl (RepAt.add 2 (RepAt.st (t := gf1) B_278.at_)) ?_)
            clear S; intro a v_431 R_432 S
            obtain rfl := RepV.bool R_432
            refine wl_pure (l' := [(110, .bool (x_43 == 1)), (109, .bool (x_43 == 1)), (108, .pointer (some ((⟨b_277, 0, .none⟩ : Addr).add (coff gf1 2)))), (9, .int .i64 0), (8, .int .i64 7), (7, pB b_277), (6, .int .i64 x_36), (5, .int .i64 c_1), (4, v_4), (3, v_7), (0, v0)]) S tys tys_ok 1 (by kernel_rfl) ?_
            clear S; intro a S
            obtain ⟨q_433, eq_433, hl_21⟩ := bindS hl_21
            refine seg 3 (fun a_ w_ => w_292 = w_ ∧ St 179 a_ [(113, .bool q_433), (9, .int .i64 0), (8, .int .i64 7), (7, pB b_277), (6, .int .i64 x_36), (5, .int .i64 c_1), (4, v_4), (3, v_7), (0, v0)]) ?_ ?_
            · by_cases hc : (x_43 == 1) = true
              · rw [if_pos hc] at eq_433; rw [hc] at S
                refine wl_pureK (l' := [(113, .bool (0 == 5)), (112, .bool (0 == 5)), (111, .int .i64 0), (9, .int .i64 0), (8, .int .i64 7), (7, pB b_277), (6, .int .i64 x_36), (5, .int .i64 c_1), (4, v_4), (3, v_7), (0, v0)]) S tys tys_ok 3 [113, 112, 111, 9, 8, 7, 6, 5, 4, 3, 0] (by kernel_rfl) ?_
                clear S; intro a S
                obtain rfl := Option.some.inj eq_433
                exact ⟨rfl, S.sub (by exact ⟨rfl, rfl, rfl, rfl, rfl, rfl, rfl, rfl, rfl, trivial⟩)⟩
              · rw [if_neg hc] at eq_433; rw [show (x_43 == 1) = false from Bool.eq_false_iff.2 hc] at S
                refine wl_pureK (l' := [(113, .bool false), (112, undef), (111, undef), (9, .int .i64 0), (8, .int .i64 7), (7, pB b_277), (6, .int .i64 x_36), (5, .int .i64 c_1), (4, v_4), (3, v_7), (0, v0)]) S tys tys_ok 3 [113, 112, 111, 9, 8, 7, 6, 5, 4, 3, 0] (by kernel_rfl) ?_
                clear S; intro a S
                obtain rfl := Option.some.inj eq_433
                exact ⟨rfl, S.sub (by exact ⟨rfl, rfl, rfl, rfl, rfl, rfl, rfl, rfl, rfl, trivial⟩)⟩
            clear S eq_433; rintro a _ ⟨rfl, S⟩
            refine wpList_nil ?_
            refine then_n ?_
            obtain ⟨j_434, ej_434, hl_21⟩ := bindS hl_21
            refine wp_cut_ (fun a_ w_ => St 179 a_ [(9, .int .i64 0), (8, .int .i64 7), (7, pB b_277), (6, .int .i64 x_36), (5, .int .i64 c_1), (4, v_4), (3, v_7), (0, v0)] ∧ Wd w w_ [some b_277, v_7.ownBlock, v_4.ownBlock] ∧ RepV (.sl gt0) w_ (Kx K w.heap.size [some b_277, v_7.ownBlock, v_4.ownBlock]) v0 x0 ∧ Bx gt1 32 w_ (Kx K w.heap.size [some b_277, v_7.ownBlock, v_4.ownBlock]) b_277 j_434 ∧ Ow (.int .i64) 3 w_ w.heap.size (Kx K w.heap.size [some b_277, v_7.ownBlock, v_4.ownBlock]) v_4 c_3 .none ∧ Ow gt1 32 w_ w.heap.size (Kx K w.heap.size [some b_277, v_7.ownBlock, v_4.ownBlock]) v_7 c_6 .none) ?_ ?_
            · refine wp_cond_split (S.eval (show ev _ _ = some (.bool q_433) from rfl)) ?_ ?_
              · intro hc
                rw [if_pos hc] at ej_434
                refine wp_region_lit ?_
                refine wl_pure (l' := [(114, .pointer (some ((⟨b_277, 0, .none⟩ : Addr).add (coff gf1 2)))), (113, .bool q_433), (9, .int .i64 0), (8, .int .i64 7), (7, pB b_277), (6, .int .i64 x_36), (5, .int .i64 c_1), (4, v_4), (3, v_7), (0, v0)]) S tys tys_ok 1 (by kernel_rfl) ?_
                clear S; intro a S
                refine w_go S rfl (op_store (t' := .bool) S rfl rfl ty4 rfl (addr_add1 _ _) rfl B_278 (by simp) (Ln.st (Ln.comp 2)) (RepV.mkBool : RepV .bool w_292 (Kx K w.heap.size [some b_277, v_7.ownBlock, v_4.ownBlock]) _ false) ?_)
                intro w_435 hw_436 B_
                replace R0 := R0.wrote hw_436 (by simp)
                replace O_5 := O_5.wrote hw_436 (by simp) (W.one (p := 2) (q := 0) (by decide) rfl rfl)
                replace O_8 := O_8.wrote hw_436 (by simp) (W.one (p := 1) (q := 0) (by decide) rfl rfl)
                replace W := W.wrote hw_436 (by simp)
                replace B_278 : Bx gt1 32 w_435 (Kx K w.heap.size [some b_277, v_7.ownBlock, v_4.ownBlock]) b_277 (x_36, 0, false, q_283, (x_51 == 1), (x_59 == 1), x_66) := B_; clear B_
                refine wl_pure (l' := [(115, .pointer (some ((⟨b_277, 0, .none⟩ : Addr).add (coff gf1 3)))), (114, .pointer (some ((⟨b_277, 0, .none⟩ : Addr).add (coff gf1 2)))), (113, .bool q_433), (9, .int .i64 0), (8, .int .i64 7), (7, pB b_277), (6, .int .i64 x_36), (5, .int .i64 c_1), (4, v_4), (3, v_7), (0, v0)]) S tys tys_ok 1 (by kernel_rfl) ?_
                clear S; intro a S
                refine w_go S rfl (op_store (t' := .bool) S rfl rfl ty4 rfl (addr_add1 _ _) rfl B_278 (by simp) (Ln.st (Ln.comp 3)) (RepV.mkBool : RepV .bool w_435 (Kx K w.heap.size [some b_277, v_7.ownBlock, v_4.ownBlock]) _ false) ?_)
                intro w_437 hw_438 B_
                replace R0 := R0.wrote hw_438 (by simp)
                replace O_5 := O_5.wrote hw_438 (by simp) (W.one (p := 2) (q := 0) (by decide) rfl rfl)
                replace O_8 := O_8.wrote hw_438 (by simp) (W.one (p := 1) (q := 0) (by decide) rfl rfl)
                replace W := W.wrote hw_438 (by simp)
                replace B_278 : Bx gt1 32 w_437 (Kx K w.heap.size [some b_277, v_7.ownBlock, v_4.ownBlock]) b_277 (x_36, 0, false, false, (x_51 == 1), (x_59 == 1), x_66) := B_; clear B_
                refine wpList_nil ?_
                refine then_n ?_
                obtain rfl := Option.some.inj ej_434
                exact ⟨S.sub (by exact ⟨rfl, rfl, rfl, rfl, rfl, rfl, rfl, rfl, trivial⟩), W, R0, B_278, O_5, O_8⟩
              · intro hc
                rw [if_neg (Bool.eq_false_iff.1 hc)] at ej_434
                refine wp_skip ?_
                refine then_n ?_
                obtain rfl := Option.some.inj ej_434
                exact ⟨S.sub (by exact ⟨rfl, rfl, rfl, rfl, rfl, rfl, rfl, rfl, trivial⟩), W, R0, B_278, O_5, O_8⟩
            clear S W; rintro a w_439 ⟨S, W, R0, B_278, O_5, O_8⟩
            refine then_n ?_
            refine wp_seq ?_
            refine wp_region_lit ?_
            refine w_go S rfl (op_alloc (K := K) (n := w.heap.size) (L := [some b_277, v_7.ownBlock, v_4.ownBlock]) (t := (.arr 8 (.int .i64))) (y := (List.replicate 8 (0 : Int))) S rfl rfl rfl _ z52 (fun w K => (rep_replicate (e := (.int .i64)) (z := 0) (cs := [.int .i64 0]) (⟨rfl, by decide⟩) 8)) ?_)
            clear S; intro a w_442 b_440 hb_443 B_441 S
            replace R0 := R0.box hb_443
            replace B_278 := B_278.box hb_443
            replace O_5 := O_5.box hb_443
            replace O_8 := O_8.box hb_443
            replace W := W.box hb_443
            refine wpList_nil ?_
            refine then_n ?_
            refine wp_seq ?_
            refine wp_seq ?_
            refine wp_region_lit ?_
            refine wl_pure (l' := [(11, .int .i64 0), (10, pB b_440), (9, .int .i64 0), (8, .int .i64 7), (7, pB b_277), (6, .int .i64 x_36), (5, .int .i64 c_1), (4, v_4), (3, v_7), (0, v0)]) S tys tys_ok 1 (by kernel_rfl) ?_
            clear S; intro a S
            refine wpList_nil ?_
            refine then_n ?_
            obtain ⟨y_450, ey_450, hl_21⟩ := bindS hl_21
            refine wp_cut_ (fun a_ w_ => St 179 a_ [(0, v0), (3, v_7), (4, v_4), (5, .int .i64 c_1), (7, pB b_277), (8, .int .i64 7), (9, .int .i64 0), (10, pB b_440)] ∧ Wd w w_ [some b_440, some b_277, v_7.ownBlock, v_4.ownBlock] ∧ RepV (.sl gt0) w_ (Kx K w.heap.size [some b_440, some b_277, v_7.ownBlock, v_4.ownBlock]) v0 x0 ∧ Bx gt1 32 w_ (Kx K w.heap.size [some b_440, some b_277, v_7.ownBlock, v_4.ownBlock]) b_277 j_434 ∧ Bx (.arr 8 (.int .i64)) 52 w_ (Kx K w.heap.size [some b_440, some b_277, v_7.ownBlock, v_4.ownBlock]) b_440 y_450 ∧ Ow gt1 32 w_ w.heap.size (Kx K w.heap.size [some b_440, some b_277, v_7.ownBlock, v_4.ownBlock]) v_7 c_6 .none ∧ Ow (.int .i64) 3 w_ w.heap.size (Kx K w.heap.size [some b_440, some b_277, v_7.ownBlock, v_4.ownBlock]) v_4 c_3 .none) ?_ ?_
            · refine wp_block ?_
              refine wp_loop_n (fun m_ a_ w_ => ∃ (c_444 : Int) (c_446 : List (Int)) , St 179 a_ [(11, .int .i64 c_444), (10, pB b_440), (9, .int .i64 0), (8, .int .i64 7), (7, pB b_277), (6, .int .i64 x_36), (5, .int .i64 c_1), (4, v_4), (3, v_7), (0, v0)] ∧ Wd w w_ [some b_440, some b_277, v_7.ownBlock, v_4.ownBlock] ∧ InR .i64 c_444 ∧ RepV (.sl gt0) w_ (Kx K w.heap.size [some b_440, some b_277, v_7.ownBlock, v_4.ownBlock]) v0 x0 ∧ Bx gt1 32 w_ (Kx K w.heap.size [some b_440, some b_277, v_7.ownBlock, v_4.ownBlock]) b_277 j_434 ∧ Bx (.arr 8 (.int .i64)) 52 w_ (Kx K w.heap.size [some b_440, some b_277, v_7.ownBlock, v_4.ownBlock]) b_440 c_446 ∧ Ow (.int .i64) 3 w_ w.heap.size (Kx K w.heap.size [some b_440, some b_277, v_7.ownBlock, v_4.ownBlock]) v_4 c_3 .none ∧ Ow gt1 32 w_ w.heap.size (Kx K w.heap.size [some b_440, some b_277, v_7.ownBlock, v_4.ownBlock]) v_7 c_6 .none ∧ p9_l4 n c_6 x_36 m_ c_444 c_446 = some y_450) n ?_ ?_
              · skip
                exact ⟨0, (List.replicate 8 (0 : Int)), ⟨S.sub (by exact ⟨rfl, rfl, rfl, rfl, rfl, rfl, rfl, rfl, rfl, rfl, trivial⟩), W, (by decide), R0, B_278, B_441, O_5, O_8, ey_450⟩⟩
              · clear S W; rintro m_451 a w_453 ⟨c_444, c_446, S, W, G_445, R0, B_278, B_441, O_5, O_8, hl_452⟩
                cases m_451 with
                | zero => exact absurd hl_452 (by simp [p9_l4])
                | succ m_451 =>
                  refine ⟨m_451, rfl, ?_⟩
                  rw [p9_l4] at hl_452
                  refine wp_seq ?_
                  refine wp_seq ?_
                  refine wp_region_lit ?_
                  refine wl_pure (l' := [(117, v_7), (116, .int .i64 c_444), (11, .int .i64 c_444), (10, pB b_440), (9, .int .i64 0), (8, .int .i64 7), (7, pB b_277), (6, .int .i64 x_36), (5, .int .i64 c_1), (4, v_4), (3, v_7), (0, v0)]) S tys tys_ok 2 (by kernel_rfl) ?_
                  clear S; intro a S
                  refine w_go S rfl (op_len (K := _) S rfl ty24 rfl rfl rfl O_8.read ?_)
                  clear S; intro a G_454 S
                  refine wl_pureK (l' := [(119, .bool (decide (c_444 < (lenI (⟨c_6, .none⟩ : Sl (Int × Int × Bool × Bool × Bool × Bool × Int)))))), (11, .int .i64 c_444), (10, pB b_440), (9, .int .i64 0), (8, .int .i64 7), (7, pB b_277), (6, .int .i64 x_36), (5, .int .i64 c_1), (4, v_4), (3, v_7), (0, v0)]) S tys tys_ok 1 [119, 11, 10, 9, 8, 7, 6, 5, 4, 3, 0] (by kernel_rfl) ?_
                  clear S; intro a S
                  refine wpList_nil ?_
                  refine then_n ?_
                  refine wp_cond_split (S.eval (show ev _ _ = some (.bool (decide (c_444 < (lenI (⟨c_6, .none⟩ : Sl (Int × Int × Bool × Bool × Bool × Bool × Int)))))) from rfl)) ?_ ?_
                  · intro hc
                    rw [if_pos hc] at hl_452
                    refine wp_skip ?_
                    refine then_n ?_
                    replace S := S.sub (l' := [(11, .int .i64 c_444), (10, pB b_440), (9, .int .i64 0), (8, .int .i64 7), (7, pB b_277), (6, .int .i64 x_36), (5, .int .i64 c_1), (4, v_4), (3, v_7), (0, v0)]) (by exact ⟨rfl, rfl, rfl, rfl, rfl, rfl, rfl, rfl, rfl, rfl, trivial⟩)
                    refine wp_seq ?_
                    refine wp_block ?_
                    refine wp_seq ?_
                    refine wp_region_lit ?_
                    refine wl_pure (l' := [(123, .int .i64 c_444), (122, v_7), (11, .int .i64 c_444), (10, pB b_440), (9, .int .i64 0), (8, .int .i64 7), (7, pB b_277), (6, .int .i64 x_36), (5, .int .i64 c_1), (4, v_4), (3, v_7), (0, v0)]) S tys tys_ok 2 (by kernel_rfl) ?_
                    clear S; intro a S
                    obtain ⟨y_455, ey_455, hl_452⟩ := bindS hl_452
                    refine w_go S rfl (op_indexAddr_own S rfl ty24 rfl rfl rfl O_8 rfl ey_455 ?_)
                    clear S; intro a g_456 H_458 R_457 S
                    refine wl_pureK (l' := [(125, .pointer (some ((⟨g_456, c_444.toNat * GT.sz gt1, .none⟩ : Addr).add (coff gf1 0)))), (11, .int .i64 c_444), (10, pB b_440), (9, .int .i64 0), (8, .int .i64 7), (7, pB b_277), (6, .int .i64 x_36), (5, .int .i64 c_1), (4, v_4), (3, v_7), (0, v0)]) S tys tys_ok 1 [125, 11, 10, 9, 8, 7, 6, 5, 4, 3, 0] (by kernel_rfl) ?_
                    clear S; intro a S
                    refine w_go S rfl (op_load (t := (.int .i64)) (x := y_455.1) S rfl ty3 rfl rfl rfl (RepAt.add 0 (RepAt.st (t := gf1) R_457)) ?_)
                    clear S; intro a v_459 R_460 S
                    obtain ⟨rfl, GR_460⟩ := RepV.int R_460
                    refine wl_pureK (l' := [(128, .bool (y_455.1 == x_36)), (11, .int .i64 c_444), (10, pB b_440), (9, .int .i64 0), (8, .int .i64 7), (7, pB b_277), (6, .int .i64 x_36), (5, .int .i64 c_1), (4, v_4), (3, v_7), (0, v0)]) S tys tys_ok 2 [128, 11, 10, 9, 8, 7, 6, 5, 4, 3, 0] (by kernel_rfl) ?_
                    clear S; intro a S
                    refine wpList_nil ?_
                    refine then_n ?_
                    obtain ⟨j_461, ej_461, hl_452⟩ := bindS hl_452
                    refine wp_cut_ (fun a_ w_ => St 179 a_ [(11, .int .i64 c_444), (10, pB b_440), (9, .int .i64 0), (8, .int .i64 7), (7, pB b_277), (6, .int .i64 x_36), (5, .int .i64 c_1), (4, v_4), (3, v_7), (0, v0)] ∧ Wd w w_ [some b_440, some b_277, v_7.ownBlock, v_4.ownBlock] ∧ RepV (.sl gt0) w_ (Kx K w.heap.size [some b_440, some b_277, v_7.ownBlock, v_4.ownBlock]) v0 x0 ∧ Bx gt1 32 w_ (Kx K w.heap.size [some b_440, some b_277, v_7.ownBlock, v_4.ownBlock]) b_277 j_434 ∧ Bx (.arr 8 (.int .i64)) 52 w_ (Kx K w.heap.size [some b_440, some b_277, v_7.ownBlock, v_4.ownBlock]) b_440 j_461 ∧ Ow (.int .i64) 3 w_ w.heap.size (Kx K w.heap.size [some b_440, some b_277, v_7.ownBlock, v_4.ownBlock]) v_4 c_3 .none ∧ Ow gt1 32 w_ w.heap.size (Kx K w.heap.size [some b_440, some b_277, v_7.ownBlock, v_4.ownBlock]) v_7 c_6 .none) ?_ ?_
                    · refine wp_cond_split (S.eval (show ev _ _ = some (.bool (y_455.1 == x_36)) from rfl)) ?_ ?_
                      · intro hc
                        rw [if_pos hc] at ej_461
                        refine wp_region_lit ?_
                        refine wl_pure (l' := [(130, .int .i64 c_444), (129, v_7), (128, .bool (y_455.1 == x_36)), (11, .int .i64 c_444), (10, pB b_440), (9, .int .i64 0), (8, .int .i64 7), (7, pB b_277), (6, .int .i64 x_36), (5, .int .i64 c_1), (4, v_4), (3, v_7), (0, v0)]) S tys tys_ok 2 (by kernel_rfl) ?_
                        clear S; intro a S
                        obtain ⟨y_462, ey_462, ej_461⟩ := bindS ej_461
                        refine w_go S rfl (op_indexAddr_own S rfl ty24 rfl rfl rfl O_8 rfl ey_462 ?_)
                        clear S; intro a g_463 H_465 R_464 S
                        refine wl_pureK (l' := [(132, .pointer (some ((⟨g_463, c_444.toNat * GT.sz gt1, .none⟩ : Addr).add (coff gf1 1)))), (11, .int .i64 c_444), (10, pB b_440), (9, .int .i64 0), (8, .int .i64 7), (7, pB b_277), (6, .int .i64 x_36), (5, .int .i64 c_1), (4, v_4), (3, v_7), (0, v0)]) S tys tys_ok 1 [132, 11, 10, 9, 8, 7, 6, 5, 4, 3, 0] (by kernel_rfl) ?_
                        clear S; intro a S
                        refine w_go S rfl (op_load (t := (.int .u8)) (x := y_462.2.1) S rfl ty5 rfl rfl rfl (RepAt.add 1 (RepAt.st (t := gf1) R_464)) ?_)
                        clear S; intro a v_466 R_467 S
                        obtain ⟨rfl, GR_467⟩ := RepV.int R_467
                        obtain ⟨y_468, ey_468, ej_461⟩ := bindS ej_461
                        refine w_go S rfl (op_indexAddr_arr S rfl ty52 rfl rfl rfl B_441.at_ rfl ey_468 ?_)
                        clear S; intro a S
                        refine w_go S rfl (op_store (t' := (.int .i64)) S rfl rfl ty3 rfl (addr_add1 _ _) rfl B_441 (by simp) (Ln.arr (n := 8) (by have h_ := (idx_some ey_468).2.2; have l_ := (B_441.at_).arr_len; omega) 0) ((RepV.mkInt (by decide)) : RepV (.int .i64) w_453 (Kx K w.heap.size [some b_440, some b_277, v_7.ownBlock, v_4.ownBlock]) _ 1) ?_)
                        intro w_469 hw_470 B_
                        replace R0 := R0.wrote hw_470 (by simp)
                        replace B_278 := B_278.wrote hw_470 (by simp) (W.bne (p := 1) (q := 0) (by decide) rfl rfl)
                        replace O_5 := O_5.wrote hw_470 (by simp) (W.one (p := 3) (q := 0) (by decide) rfl rfl)
                        replace O_8 := O_8.wrote hw_470 (by simp) (W.one (p := 2) (q := 0) (by decide) rfl rfl)
                        replace W := W.wrote hw_470 (by simp)
                        replace B_441 : Bx (.arr 8 (.int .i64)) 52 w_469 (Kx K w.heap.size [some b_440, some b_277, v_7.ownBlock, v_4.ownBlock]) b_440 (c_446.set y_462.2.1.toNat 1) := B_; clear B_
                        refine wpList_nil ?_
                        refine then_n ?_
                        obtain rfl := Option.some.inj ej_461
                        exact ⟨S.sub (by exact ⟨rfl, rfl, rfl, rfl, rfl, rfl, rfl, rfl, rfl, rfl, trivial⟩), W, R0, B_278, B_441, O_5, O_8⟩
                      · intro hc
                        rw [if_neg (Bool.eq_false_iff.1 hc)] at ej_461
                        refine wp_skip ?_
                        refine then_n ?_
                        obtain rfl := Option.some.inj ej_461
                        exact ⟨S.sub (by exact ⟨rfl, rfl, rfl, rfl, rfl, rfl, rfl, rfl, rfl, rfl, trivial⟩), W, R0, B_278, B_441, O_5, O_8⟩
                    clear S W; rintro a w_471 ⟨S, W, R0, B_278, B_441, O_5, O_8⟩
                    refine blk_n ?_
                    refine then_n ?_
                    refine wp_region_lit ?_
                    refine wl_pure (l' := [(120, .int .i64 c_444), (11, .int .i64 c_444), (10, pB b_440), (9, .int .i64 0), (8, .int .i64 7), (7, pB b_277), (6, .int .i64 x_36), (5, .int .i64 c_1), (4, v_4), (3, v_7), (0, v0)]) S tys tys_ok 1 (by kernel_rfl) ?_
                    clear S; intro a S
                    obtain ⟨x_472, ex_472, hl_452⟩ := bindS hl_452
                    refine w_go S rfl (op_arith S .i64 (c_444 + 1) rfl (.inl rfl) rfl rfl rfl rfl ex_472 ?_)
                    clear S; intro a S
                    refine wl_pure (l' := [(11, .int .i64 x_472), (121, .int .i64 x_472), (120, .int .i64 c_444), (11, .int .i64 c_444), (10, pB b_440), (9, .int .i64 0), (8, .int .i64 7), (7, pB b_277), (6, .int .i64 x_36), (5, .int .i64 c_1), (4, v_4), (3, v_7), (0, v0)]) S tys tys_ok 1 (by kernel_rfl) ?_
                    clear S; intro a S
                    refine wpList_nil ?_
                    refine then_n ?_
                    exact ⟨x_472, j_461, ⟨S.sub (by exact ⟨rfl, rfl, rfl, rfl, rfl, rfl, rfl, rfl, rfl, rfl, trivial⟩), W, (ckI_some ex_472).2.1, R0, B_278, B_441, O_5, O_8, hl_452⟩⟩
                  · intro hc
                    rw [if_neg (Bool.eq_false_iff.1 hc)] at hl_452
                    refine wp_exit ?_
                    refine then_x ?_
                    refine then_x ?_
                    refine blk_hit ?_
                    refine then_n ?_
                    obtain rfl := Option.some.inj hl_452
                    exact ⟨S.sub (by exact ⟨rfl, rfl, rfl, rfl, rfl, rfl, rfl, rfl, trivial⟩), W, R0, B_278, B_441, O_8, O_5⟩
            clear S W; rintro a w_473 ⟨S, W, R0, B_278, B_441, O_8, O_5⟩
            refine then_n ?_
            refine wp_seq ?_
            refine wp_seq ?_
            refine wp_region_lit ?_
            refine wl_pure (l' := [(12, .int .i64 0), (0, v0), (3, v_7), (4, v_4), (5, .int .i64 c_1), (7, pB b_277), (8, .int .i64 7), (9, .int .i64 0), (10, pB b_440)]) S tys tys_ok 1 (by kernel_rfl) ?_
            clear S; intro a S
            refine wpList_nil ?_
            refine then_n ?_
            obtain ⟨y_480, ey_480, hl_21⟩ := bindS hl_21
            refine wp_cut_ (fun a_ w_ => St 179 a_ [(0, v0), (3, v_7), (4, v_4), (5, .int .i64 c_1), (7, pB b_277), (9, .int .i64 0)] ∧ Wd w w_ [some b_440, some b_277, v_7.ownBlock, v_4.ownBlock] ∧ RepV (.sl gt0) w_ (Kx K w.heap.size [some b_440, some b_277, v_7.ownBlock, v_4.ownBlock]) v0 x0 ∧ Bx gt1 32 w_ (Kx K w.heap.size [some b_440, some b_277, v_7.ownBlock, v_4.ownBlock]) b_277 y_480 ∧ Bx (.arr 8 (.int .i64)) 52 w_ (Kx K w.heap.size [some b_440, some b_277, v_7.ownBlock, v_4.ownBlock]) b_440 y_450 ∧ Ow gt1 32 w_ w.heap.size (Kx K w.heap.size [some b_440, some b_277, v_7.ownBlock, v_4.ownBlock]) v_7 c_6 .none ∧ Ow (.int .i64) 3 w_ w.heap.size (Kx K w.heap.size [some b_440, some b_277, v_7.ownBlock, v_4.ownBlock]) v_4 c_3 .none) ?_ ?_
            · refine wp_block ?_
              refine wp_loop_n (fun m_ a_ w_ => ∃ (c_474 : Int) (c_476 : Int × Int × Bool × Bool × Bool × Bool × Int) , St 179 a_ [(12, .int .i64 c_474), (0, v0), (3, v_7), (4, v_4), (5, .int .i64 c_1), (7, pB b_277), (8, .int .i64 7), (9, .int .i64 0), (10, pB b_440)] ∧ Wd w w_ [some b_440, some b_277, v_7.ownBlock, v_4.ownBlock] ∧ InR .i64 c_474 ∧ RepV (.sl gt0) w_ (Kx K w.heap.size [some b_440, some b_277, v_7.ownBlock, v_4.ownBlock]) v0 x0 ∧ Bx gt1 32 w_ (Kx K w.heap.size [some b_440, some b_277, v_7.ownBlock, v_4.ownBlock]) b_277 c_476 ∧ Bx (.arr 8 (.int .i64)) 52 w_ (Kx K w.heap.size [some b_440, some b_277, v_7.ownBlock, v_4.ownBlock]) b_440 y_450 ∧ Ow gt1 32 w_ w.heap.size (Kx K w.heap.size [some b_440, some b_277, v_7.ownBlock, v_4.ownBlock]) v_7 c_6 .none ∧ Ow (.int .i64) 3 w_ w.heap.size (Kx K w.heap.size [some b_440, some b_277, v_7.ownBlock, v_4.ownBlock]) v_4 c_3 .none ∧ p9_l5 n x0 c_1 y_450 m_ c_474 c_476 = some y_480) n ?_ ?_
              · skip
                exact ⟨0, j_434, ⟨S.sub (by exact ⟨rfl, rfl, rfl, rfl, rfl, rfl, rfl, rfl, rfl, trivial⟩), W, (by decide), R0, B_278, B_441, O_8, O_5, ey_480⟩⟩
              · clear S W; rintro m_481 a w_483 ⟨c_474, c_476, S, W, G_475, R0, B_278, B_441, O_8, O_5, hl_482⟩
                cases m_481 with
                | zero => exact absurd hl_482 (by simp [p9_l5])
                | succ m_481 =>
                  refine ⟨m_481, rfl, ?_⟩
                  rw [p9_l5] at hl_482
                  refine wp_seq ?_
                  refine wp_seq ?_
                  refine wp_region_lit ?_
                  refine wl_pureK (l' := [(138, .bool (decide (c_474 < 7))), (12, .int .i64 c_474), (0, v0), (3, v_7), (4, v_4), (5, .int .i64 c_1), (7, pB b_277), (8, .int .i64 7), (9, .int .i64 0), (10, pB b_440)]) S tys tys_ok 4 [138, 12, 0, 3, 4, 5, 7, 8, 9, 10] (by kernel_rfl) ?_
                  clear S; intro a S
                  obtain ⟨q_484, eq_484, hl_482⟩ := bindS hl_482
                  refine seg 4 (fun a_ w_ => w_483 = w_ ∧ St 179 a_ [(142, .bool q_484), (12, .int .i64 c_474), (0, v0), (3, v_7), (4, v_4), (5, .int .i64 c_1), (7, pB b_277), (8, .int .i64 7), (9, .int .i64 0), (10, pB b_440)]) ?_ ?_
                  · by_cases hc : (decide (c_474 < 7)) = true
                    · rw [if_pos hc] at eq_484; rw [hc] at S
                      refine wl_pure (l' := [(139, .pointer (some ((⟨b_277, 0, .none⟩ : Addr).add (coff gf1 1)))), (138, .bool true), (12, .int .i64 c_474), (0, v0), (3, v_7), (4, v_4), (5, .int .i64 c_1), (7, pB b_277), (8, .int .i64 7), (9, .int .i64 0), (10, pB b_440)]) S tys tys_ok 1 (by kernel_rfl) ?_
                      clear S; intro a S
                      refine w_go S rfl (op_load (t := (.int .u8)) (x := c_476.2.1) S rfl ty5 rfl rfl rfl (RepAt.add 1 (RepAt.st (t := gf1) B_278.at_)) ?_)
                      clear S; intro a v_485 R_486 S
                      obtain ⟨rfl, GR_486⟩ := RepV.int R_486
                      refine wl_pure (l' := [(142, .bool (c_476.2.1 == 0)), (141, .bool (c_476.2.1 == 0)), (140, .int .u8 c_476.2.1), (139, .pointer (some ((⟨b_277, 0, .none⟩ : Addr).add (coff gf1 1)))), (138, .bool true), (12, .int .i64 c_474), (0, v0), (3, v_7), (4, v_4), (5, .int .i64 c_1), (7, pB b_277), (8, .int .i64 7), (9, .int .i64 0), (10, pB b_440)]) S tys tys_ok 2 (by kernel_rfl) ?_
                      clear S; intro a S
                      obtain rfl := Option.some.inj eq_484
                      exact ⟨rfl, S.sub (by exact ⟨rfl, rfl, rfl, rfl, rfl, rfl, rfl, rfl, rfl, rfl, trivial⟩)⟩
                    · rw [if_neg hc] at eq_484; rw [show (decide (c_474 < 7)) = false from Bool.eq_false_iff.2 hc] at S
                      refine wl_pure (l' := [(142, .bool false), (141, undef), (140, undef), (139, undef), (138, .bool false), (12, .int .i64 c_474), (0, v0), (3, v_7), (4, v_4), (5, .int .i64 c_1), (7, pB b_277), (8, .int .i64 7), (9, .int .i64 0), (10, pB b_440)]) S tys tys_ok 4 (by kernel_rfl) ?_
                      clear S; intro a S
                      obtain rfl := Option.some.inj eq_484
                      exact ⟨rfl, S.sub (by exact ⟨rfl, rfl, rfl, rfl, rfl, rfl, rfl, rfl, rfl, rfl, trivial⟩)⟩
                  clear S eq_484; rintro a _ ⟨rfl, S⟩
                  refine wpList_nil ?_
                  refine then_n ?_
                  refine wp_cond_split (S.eval (show ev _ _ = some (.bool q_484) from rfl)) ?_ ?_
                  · intro hc
                    rw [if_pos hc] at hl_482
                    refine wp_skip ?_
                    refine then_n ?_
                    replace S := S.sub (l' := [(12, .int .i64 c_474), (0, v0), (3, v_7), (4, v_4), (5, .int .i64 c_1), (7, pB b_277), (8, .int .i64 7), (9, .int .i64 0), (10, pB b_440)]) (by exact ⟨rfl, rfl, rfl, rfl, rfl, rfl, rfl, rfl, rfl, trivial⟩)
                    refine wp_seq ?_
                    refine wp_block ?_
                    refine wp_seq ?_
                    refine wp_region_lit ?_
                    refine wl_pure (l' := [(146, .int .i64 c_1), (145, v0), (12, .int .i64 c_474), (0, v0), (3, v_7), (4, v_4), (5, .int .i64 c_1), (7, pB b_277), (8, .int .i64 7), (9, .int .i64 0), (10, pB b_440)]) S tys tys_ok 2 (by kernel_rfl) ?_
                    clear S; intro a S
                    obtain ⟨y_487, ey_487, hl_482⟩ := bindS hl_482
                    refine w_go S rfl (op_indexAddr S rfl ty23 rfl rfl rfl R0 rfl ey_487 ?_)
                    clear S; intro a p_488 R_489 H_490 S
                    refine wl_pureK (l' := [(148, .pointer (some (p_488.add (coff gf0 1)))), (12, .int .i64 c_474), (0, v0), (3, v_7), (4, v_4), (5, .int .i64 c_1), (7, pB b_277), (8, .int .i64 7), (9, .int .i64 0), (10, pB b_440)]) S tys tys_ok 1 [148, 12, 0, 3, 4, 5, 7, 8, 9, 10] (by kernel_rfl) ?_
                    clear S; intro a S
                    refine w_go S rfl (op_load (t := (.int .u8)) (x := y_487.2.1) S rfl ty5 rfl rfl rfl (RepAt.add 1 (RepAt.st (t := gf0) R_489)) ?_)
                    clear S; intro a v_491 R_492 S
                    obtain ⟨rfl, GR_492⟩ := RepV.int R_492
                    refine w_go S rfl (op_conv S .i64 .bool .bool rfl ty5 ty3 rfl rfl rfl (widen GR_492 (by decide)).1 ?_)
                    clear S; intro a S
                    refine wl_pure (l' := [(151, .int .i64 c_474), (150, .int .i64 y_487.2.1), (149, .int .u8 y_487.2.1), (148, .pointer (some (p_488.add (coff gf0 1)))), (12, .int .i64 c_474), (0, v0), (3, v_7), (4, v_4), (5, .int .i64 c_1), (7, pB b_277), (8, .int .i64 7), (9, .int .i64 0), (10, pB b_440)]) S tys tys_ok 1 (by kernel_rfl) ?_
                    clear S; intro a S
                    obtain ⟨x_493, ex_493, hl_482⟩ := bindS hl_482
                    refine w_go S rfl (op_arith S .i64 (y_487.2.1 + c_474) rfl (.inl rfl) rfl rfl rfl rfl ex_493 ?_)
                    clear S; intro a S
                    refine wl_pureK (l' := [(153, .int .i64 7), (152, .int .i64 x_493), (12, .int .i64 c_474), (0, v0), (3, v_7), (4, v_4), (5, .int .i64 c_1), (7, pB b_277), (8, .int .i64 7), (9, .int .i64 0), (10, pB b_440)]) S tys tys_ok 1 [153, 152, 12, 0, 3, 4, 5, 7, 8, 9, 10] (by kernel_rfl) ?_
                    clear S; intro a S
                    obtain ⟨x_494, ex_494, hl_482⟩ := bindS hl_482
                    refine w_go S rfl (op_rem S .i64 rfl rfl rfl rfl rfl ex_494 ?_)
                    clear S; intro a S
                    obtain ⟨x_495, ex_495, hl_482⟩ := bindS hl_482
                    refine w_go S rfl (op_arith S .i64 (1 + x_494) rfl (.inl rfl) rfl rfl rfl rfl ex_495 ?_)
                    clear S; intro a S
                    refine wl_pureK (l' := [(13, .int .i64 x_495), (12, .int .i64 c_474), (0, v0), (3, v_7), (4, v_4), (5, .int .i64 c_1), (7, pB b_277), (8, .int .i64 7), (9, .int .i64 0), (10, pB b_440)]) S tys tys_ok 1 [13, 12, 0, 3, 4, 5, 7, 8, 9, 10] (by kernel_rfl) ?_
                    clear S; intro a S
                    refine wpList_nil ?_
                    refine then_n ?_
                    refine wp_seq ?_
                    refine wp_region_lit ?_
                    refine wl_pure (l' := [(156, .int .i64 x_495), (13, .int .i64 x_495), (12, .int .i64 c_474), (0, v0), (3, v_7), (4, v_4), (5, .int .i64 c_1), (7, pB b_277), (8, .int .i64 7), (9, .int .i64 0), (10, pB b_440)]) S tys tys_ok 1 (by kernel_rfl) ?_
                    clear S; intro a S
                    obtain ⟨y_496, ey_496, hl_482⟩ := bindS hl_482
                    refine w_go S rfl (op_indexAddr_arr S rfl ty52 rfl rfl rfl B_441.at_ rfl ey_496 ?_)
                    clear S; intro a S
                    refine w_go S rfl (op_load (t := (.int .i64)) (x := y_496) S rfl ty3 rfl rfl rfl (RepAt.ix B_441.at_ ey_496) ?_)
                    clear S; intro a v_497 R_498 S
                    obtain ⟨rfl, GR_498⟩ := RepV.int R_498
                    refine wl_pureK (l' := [(159, .bool (y_496 == 0)), (13, .int .i64 x_495), (12, .int .i64 c_474), (0, v0), (3, v_7), (4, v_4), (5, .int .i64 c_1), (7, pB b_277), (8, .int .i64 7), (9, .int .i64 0), (10, pB b_440)]) S tys tys_ok 1 [159, 13, 12, 0, 3, 4, 5, 7, 8, 9, 10] (by kernel_rfl) ?_
                    clear S; intro a S
                    refine wpList_nil ?_
                    refine then_n ?_
                    obtain ⟨j_499, ej_499, hl_482⟩ := bindS hl_482
                    refine wp_cut_ (fun a_ w_ => St 179 a_ [(12, .int .i64 c_474), (0, v0), (3, v_7), (4, v_4), (5, .int .i64 c_1), (7, pB b_277), (8, .int .i64 7), (9, .int .i64 0), (10, pB b_440)] ∧ Wd w w_ [some b_440, some b_277, v_7.ownBlock, v_4.ownBlock] ∧ RepV (.sl gt0) w_ (Kx K w.heap.size [some b_440, some b_277, v_7.ownBlock, v_4.ownBlock]) v0 x0 ∧ Bx gt1 32 w_ (Kx K w.heap.size [some b_440, some b_277, v_7.ownBlock, v_4.ownBlock]) b_277 j_499 ∧ Bx (.arr 8 (.int .i64)) 52 w_ (Kx K w.heap.size [some b_440, some b_277, v_7.ownBlock, v_4.ownBlock]) b_440 y_450 ∧ Ow gt1 32 w_ w.heap.size (Kx K w.heap.size [some b_440, some b_277, v_7.ownBlock, v_4.ownBlock]) v_7 c_6 .none ∧ Ow (.int .i64) 3 w_ w.heap.size (Kx K w.heap.size [some b_440, some b_277, v_7.ownBlock, v_4.ownBlock]) v_4 c_3 .none) ?_ ?_
                    · refine wp_cond_split (S.eval (show ev _ _ = some (.bool (y_496 == 0)) from rfl)) ?_ ?_
                      · intro hc
                        rw [if_pos hc] at ej_499
                        refine wp_region_lit ?_
                        refine wl_pureK (l' := [(162, .pointer (some ((⟨b_277, 0, .none⟩ : Addr).add (coff gf1 1)))), (161, .int .u8 (IntKind.wrap .u8 x_495)), (12, .int .i64 c_474), (0, v0), (3, v_7), (4, v_4), (5, .int .i64 c_1), (7, pB b_277), (8, .int .i64 7), (9, .int .i64 0), (10, pB b_440)]) S tys tys_ok 3 [162, 161, 12, 0, 3, 4, 5, 7, 8, 9, 10] (by kernel_rfl) ?_
                        clear S; intro a S
                        refine w_go S rfl (op_store (t' := (.int .u8)) S rfl rfl ty5 rfl (addr_add1 _ _) rfl B_278 (by simp) (Ln.st (Ln.comp 1)) ((RepV.mkInt (inR_wrap _ _)) : RepV (.int .u8) w_483 (Kx K w.heap.size [some b_440, some b_277, v_7.ownBlock, v_4.ownBlock]) _ (IntKind.wrap .u8 x_495)) ?_)
                        intro w_500 hw_501 B_
                        replace R0 := R0.wrote hw_501 (by simp)
                        replace B_441 := B_441.wrote hw_501 (by simp) (W.bne (p := 0) (q := 1) (by decide) rfl rfl)
                        replace O_8 := O_8.wrote hw_501 (by simp) (W.one (p := 2) (q := 1) (by decide) rfl rfl)
                        replace O_5 := O_5.wrote hw_501 (by simp) (W.one (p := 3) (q := 1) (by decide) rfl rfl)
                        replace W := W.wrote hw_501 (by simp)
                        replace B_278 : Bx gt1 32 w_500 (Kx K w.heap.size [some b_440, some b_277, v_7.ownBlock, v_4.ownBlock]) b_277 (c_476.1, IntKind.wrap .u8 x_495, c_476.2.2.1, c_476.2.2.2.1, c_476.2.2.2.2.1, c_476.2.2.2.2.2.1, c_476.2.2.2.2.2.2) := B_; clear B_
                        refine wpList_nil ?_
                        refine then_n ?_
                        obtain rfl := Option.some.inj ej_499
                        exact ⟨S.sub (by exact ⟨rfl, rfl, rfl, rfl, rfl, rfl, rfl, rfl, rfl, trivial⟩), W, R0, B_278, B_441, O_8, O_5⟩
                      · intro hc
                        rw [if_neg (Bool.eq_false_iff.1 hc)] at ej_499
                        refine wp_skip ?_
                        refine then_n ?_
                        obtain rfl := Option.some.inj ej_499
                        exact ⟨S.sub (by exact ⟨rfl, rfl, rfl, rfl, rfl, rfl, rfl, rfl, rfl, trivial⟩), W, R0, B_278, B_441, O_8, O_5⟩
                    clear S W; rintro a w_502 ⟨S, W, R0, B_278, B_441, O_8, O_5⟩
                    refine blk_n ?_
                    refine then_n ?_
                    refine wp_region_lit ?_
                    refine wl_pure (l' := [(143, .int .i64 c_474), (12, .int .i64 c_474), (0, v0), (3, v_7), (4, v_4), (5, .int .i64 c_1), (7, pB b_277), (8, .int .i64 7), (9, .int .i64 0), (10, pB b_440)]) S tys tys_ok 1 (by kernel_rfl) ?_
                    clear S; intro a S
                    obtain ⟨x_503, ex_503, hl_482⟩ := bindS hl_482
                    refine w_go S rfl (op_arith S .i64 (c_474 + 1) rfl (.inl rfl) rfl rfl rfl rfl ex_503 ?_)
                    clear S; intro a S
                    refine wl_pure (l' := [(12, .int .i64 x_503), (144, .int .i64 x_503), (143, .int .i64 c_474), (12, .int .i64 c_474), (0, v0), (3, v_7), (4, v_4), (5, .int .i64 c_1), (7, pB b_277), (8, .int .i64 7), (9, .int .i64 0), (10, pB b_440)]) S tys tys_ok 1 (by kernel_rfl) ?_
                    clear S; intro a S
                    refine wpList_nil ?_
                    refine then_n ?_
                    exact ⟨x_503, j_499, ⟨S.sub (by exact ⟨rfl, rfl, rfl, rfl, rfl, rfl, rfl, rfl, rfl, trivial⟩), W, (ckI_some ex_503).2.1, R0, B_278, B_441, O_8, O_5, hl_482⟩⟩
                  · intro hc
                    rw [if_neg (Bool.eq_false_iff.1 hc)] at hl_482
                    refine wp_exit ?_
                    refine then_x ?_
                    refine then_x ?_
                    refine blk_hit ?_
                    refine then_n ?_
                    obtain rfl := Option.some.inj hl_482
                    exact ⟨S.sub (by exact ⟨rfl, rfl, rfl, rfl, rfl, rfl, trivial⟩), W, R0, B_278, B_441, O_8, O_5⟩
            clear S W; rintro a w_504 ⟨S, W, R0, B_278, B_441, O_8, O_5⟩
            refine then_n ?_
            refine wp_seq ?_
            refine wp_seq ?_
            refine wp_region_lit ?_
            refine wl_pure (l' := [(163, .pointer (some ((⟨b_277, 0, .none⟩ : Addr).add (coff gf1 1)))), (0, v0), (3, v_7), (4, v_4), (5, .int .i64 c_1), (7, pB b_277), (9, .int .i64 0)]) S tys tys_ok 1 (by kernel_rfl) ?_
            clear S; intro a S
            refine w_go S rfl (op_load (t := (.int .u8)) (x := y_480.2.1) S rfl ty5 rfl rfl rfl (RepAt.add 1 (RepAt.st (t := gf1) B_278.at_)) ?_)
            clear S; intro a v_505 R_506 S
            obtain ⟨rfl, GR_506⟩ := RepV.int R_506
            refine wl_pure (l' := [(165, .bool (y_480.2.1 == 0)), (164, .int .u8 y_480.2.1), (163, .pointer (some ((⟨b_277, 0, .none⟩ : Addr).add (coff gf1 1)))), (0, v0), (3, v_7), (4, v_4), (5, .int .i64 c_1), (7, pB b_277), (9, .int .i64 0)]) S tys tys_ok 1 (by kernel_rfl) ?_
            clear S; intro a S
            refine wpList_nil ?_
            refine then_n ?_
            replace S := S.sub (l' := [(165, .bool (y_480.2.1 == 0)), (0, v0), (3, v_7), (4, v_4), (5, .int .i64 c_1), (7, pB b_277), (9, .int .i64 0)]) (by exact ⟨rfl, rfl, rfl, rfl, rfl, rfl, rfl, trivial⟩)
            refine wp_cond_split (S.eval (show ev _ _ = some (.bool (y_480.2.1 == 0)) from rfl)) ?_ ?_
            · intro hc
              rw [if_pos hc] at hl_21
              refine wp_exit ?_
              refine then_x ?_
              refine blk_hit ?_
              refine then_n ?_
              replace S := S.sub (l' := [(0, v0), (3, v_7), (4, v_4), (5, .int .i64 c_1)]) (by exact ⟨rfl, rfl, rfl, rfl, trivial⟩)
              refine wp_region_lit ?_
              refine wl_pure (l' := [(22, .int .i64 c_1), (0, v0), (3, v_7), (4, v_4), (5, .int .i64 c_1)]) S tys tys_ok 1 (by kernel_rfl) ?_
              clear S; intro a S
              obtain ⟨x_507, ex_507, hl_21⟩ := bindS hl_21
              refine w_go S rfl (op_arith S .i64 (c_1 + 1) rfl (.inl rfl) rfl rfl rfl rfl ex_507 ?_)
              clear S; intro a S
              refine wl_pure (l' := [(5, .int .i64 x_507), (23, .int .i64 x_507), (22, .int .i64 c_1), (0, v0), (3, v_7), (4, v_4), (5, .int .i64 c_1)]) S tys tys_ok 1 (by kernel_rfl) ?_
              clear S; intro a S
              refine wpList_nil ?_
              refine then_n ?_
              exact ⟨x_507, c_3, c_6, ⟨v_4, v_7, S.sub (by exact ⟨rfl, rfl, rfl, rfl, trivial⟩), (W.drop 2), (ckI_some ex_507).2.1, (R0.drop 2), (O_5.drop 2), (O_8.drop 2), hl_21⟩⟩
            · intro hc
              rw [if_neg (Bool.eq_false_iff.1 hc)] at hl_21
              refine wp_skip ?_
              refine then_n ?_
              replace S := S.sub (l' := [(0, v0), (3, v_7), (4, v_4), (5, .int .i64 c_1), (7, pB b_277), (9, .int .i64 0)]) (by exact ⟨rfl, rfl, rfl, rfl, rfl, rfl, trivial⟩)
              refine wp_seq ?_
              refine wp_region_lit ?_
              refine wl_pure (l' := [(166, v_7), (0, v0), (3, v_7), (4, v_4), (5, .int .i64 c_1), (7, pB b_277), (9, .int .i64 0)]) S tys tys_ok 1 (by kernel_rfl) ?_
              clear S; intro a S
              refine w_go S rfl (op_load (t := gt1) (x := y_480) S rfl ty32 rfl rfl rfl B_278.at_ ?_)
              clear S; intro a v_508 R_509 S
              refine w_go S rfl (op_buildSlice (K := K) (e := gt1) (vs := [v_508]) (xs := [y_480]) S W rfl ty24 rfl rfl (by kernel_rfl) rfl rfl rfl rfl rfl ⟨R_509, trivial⟩ ?_)
              clear S; intro a w_513 v_510 hb_512 R_511 S
              replace R0 := R0.step hb_512
              replace R_509 := R_509.step hb_512
              replace B_278 := B_278.step hb_512
              replace B_441 := B_441.step hb_512
              replace O_8 := O_8.step hb_512
              replace O_5 := O_5.step hb_512
              replace W := W.step hb_512
              obtain ⟨l_514, el_514, hl_21⟩ := bindS hl_21
              refine w_go S rfl (op_append S W (E := 32) 2 rfl ty24 un24 by24 rfl rfl rfl rfl O_8 rfl R_511 el_514 ?_)
              clear S; intro a w_516 v_515 A_517 O_518 S
              replace R0 : RepV (.sl gt0) w_516 (Kx K w.heap.size [some b_440, some b_277, v_515.ownBlock, v_4.ownBlock]) v0 x0 := R0.apd A_517 (i := 2) rfl
              replace R_509 : RepV gt1 w_516 (Kx K w.heap.size [some b_440, some b_277, v_515.ownBlock, v_4.ownBlock]) v_508 y_480 := R_509.apd A_517 (i := 2) rfl
              replace R_511 : RepV (.sl gt1) w_516 (Kx K w.heap.size [some b_440, some b_277, v_515.ownBlock, v_4.ownBlock]) v_510 (⟨[y_480], some 1⟩ : Sl (Int × Int × Bool × Bool × Bool × Bool × Int)) := R_511.apd A_517 (i := 2) rfl
              replace B_278 : Bx gt1 32 w_516 (Kx K w.heap.size [some b_440, some b_277, v_515.ownBlock, v_4.ownBlock]) b_277 y_480 := B_278.apd W A_517 (i := 2) rfl (j := 1) rfl (by decide)
              replace B_441 : Bx (.arr 8 (.int .i64)) 52 w_516 (Kx K w.heap.size [some b_440, some b_277, v_515.ownBlock, v_4.ownBlock]) b_440 y_450 := B_441.apd W A_517 (i := 2) rfl (j := 0) rfl (by decide)
              replace O_5 : Ow (.int .i64) 3 w_516 w.heap.size (Kx K w.heap.size [some b_440, some b_277, v_515.ownBlock, v_4.ownBlock]) v_4 c_3 .none := O_5.apd W A_517 (i := 2) rfl (j := 3) rfl (by decide)
              replace W : Wd w w_516 [some b_440, some b_277, v_515.ownBlock, v_4.ownBlock] := W.apd A_517 (i := 2) rfl
              replace O_518 : Ow gt1 32 w_516 w.heap.size (Kx K w.heap.size [some b_440, some b_277, v_515.ownBlock, v_4.ownBlock]) v_515 l_514 (capA .none l_514.length) := O_518
              refine wl_pureK (l' := [(3, v_515), (0, v0), (3, v_7), (4, v_4), (5, .int .i64 c_1), (7, pB b_277), (9, .int .i64 0)]) S tys tys_ok 1 [3, 0, 4, 5, 7, 9] (by kernel_rfl) ?_
              clear S; intro a S
              refine wpList_nil ?_
              refine then_n ?_
              refine wp_seq ?_
              refine wp_seq ?_
              refine wp_region_lit ?_
              refine wl_pure (l' := [(170, .pointer (some ((⟨b_277, 0, .none⟩ : Addr).add (coff gf1 2)))), (3, v_515), (0, v0), (3, v_7), (4, v_4), (5, .int .i64 c_1), (7, pB b_277), (9, .int .i64 0)]) S tys tys_ok 1 (by kernel_rfl) ?_
              clear S; intro a S
              refine w_go S rfl (op_load (t := .bool) (x := y_480.2.2.1) S rfl ty4 rfl rfl rfl (RepAt.add 2 (RepAt.st (t := gf1) B_278.at_)) ?_)
              clear S; intro a v_519 R_520 S
              obtain rfl := RepV.bool R_520
              refine wpList_nil ?_
              refine then_n ?_
              replace S := S.sub (l' := [(171, .bool y_480.2.2.1), (3, v_515), (0, v0), (4, v_4), (5, .int .i64 c_1), (9, .int .i64 0)]) (by exact ⟨rfl, rfl, rfl, rfl, rfl, rfl, trivial⟩)
              obtain ⟨j_521, ej_521, hl_21⟩ := bindS hl_21
              refine wp_cut_ (fun a_ w_ => St 179 a_ [(3, v_515), (0, v0), (4, v_4), (5, .int .i64 c_1), (9, .int .i64 j_521)] ∧ Wd w w_ [some b_440, some b_277, v_515.ownBlock, v_4.ownBlock] ∧ InR .i64 j_521 ∧ RepV (.sl gt0) w_ (Kx K w.heap.size [some b_440, some b_277, v_515.ownBlock, v_4.ownBlock]) v0 x0 ∧ Bx gt1 32 w_ (Kx K w.heap.size [some b_440, some b_277, v_515.ownBlock, v_4.ownBlock]) b_277 y_480 ∧ Bx (.arr 8 (.int .i64)) 52 w_ (Kx K w.heap.size [some b_440, some b_277, v_515.ownBlock, v_4.ownBlock]) b_440 y_450 ∧ Ow gt1 32 w_ w.heap.size (Kx K w.heap.size [some b_440, some b_277, v_515.ownBlock, v_4.ownBlock]) v_515 l_514 (capA .none l_514.length) ∧ Ow (.int .i64) 3 w_ w.heap.size (Kx K w.heap.size [some b_440, some b_277, v_515.ownBlock, v_4.ownBlock]) v_4 c_3 .none) ?_ ?_
              · refine wp_cond_split (S.eval (show ev _ _ = some (.bool y_480.2.2.1) from rfl)) ?_ ?_
                · intro hc
                  rw [if_pos hc] at ej_521
                  refine wp_region_lit ?_
                  refine wl_pure (l' := [(172, .int .i64 0), (171, .bool y_480.2.2.1), (3, v_515), (0, v0), (4, v_4), (5, .int .i64 c_1), (9, .int .i64 0)]) S tys tys_ok 1 (by kernel_rfl) ?_
                  clear S; intro a S
                  obtain ⟨x_523, ex_523, ej_521⟩ := bindS ej_521
                  refine w_go S rfl (op_arith S .i64 (0 + 1) rfl (.inl rfl) rfl rfl rfl rfl ex_523 ?_)
                  clear S; intro a S
                  refine wl_pureK (l' := [(9, .int .i64 x_523), (3, v_515), (0, v0), (4, v_4), (5, .int .i64 c_1), (9, .int .i64 0)]) S tys tys_ok 1 [9, 3, 0, 4, 5] (by kernel_rfl) ?_
                  clear S; intro a S
                  refine wpList_nil ?_
                  refine then_n ?_
                  obtain rfl := Option.some.inj ej_521
                  exact ⟨S.sub (by exact ⟨rfl, rfl, rfl, rfl, rfl, trivial⟩), W, (ckI_some ex_523).2.1, R0, B_278, B_441, O_518, O_5⟩
                · intro hc
                  rw [if_neg (Bool.eq_false_iff.1 hc)] at ej_521
                  refine wp_skip ?_
                  refine then_n ?_
                  obtain rfl := Option.some.inj ej_521
                  exact ⟨S.sub (by exact ⟨rfl, rfl, rfl, rfl, rfl, trivial⟩), W, (by decide), R0, B_278, B_441, O_518, O_5⟩
              clear S W; rintro a w_524 ⟨S, W, G_522, R0, B_278, B_441, O_518, O_5⟩
              refine then_n ?_
              refine wp_region_lit ?_
              refine wl_pure (l' := [(175, .int .i64 j_521), (174, v_4), (3, v_515), (0, v0), (4, v_4), (5, .int .i64 c_1), (9, .int .i64 j_521)]) S tys tys_ok 2 (by kernel_rfl) ?_
              clear S; intro a S
              refine w_go S rfl (op_buildSlice (K := K) (e := (.int .i64)) (vs := [.int .i64 j_521]) (xs := [j_521]) S W rfl ty27 rfl rfl (by kernel_rfl) rfl rfl rfl rfl rfl ⟨(RepV.mkInt G_522), trivial⟩ ?_)
              clear S; intro a w_528 v_525 hb_527 R_526 S
              replace R0 := R0.step hb_527
              replace B_278 := B_278.step hb_527
              replace B_441 := B_441.step hb_527
              replace O_518 := O_518.step hb_527
              replace O_5 := O_5.step hb_527
              replace W := W.step hb_527
              obtain ⟨l_529, el_529, hl_21⟩ := bindS hl_21
              refine w_go S rfl (op_append S W (E := 3) 3 rfl ty27 un27 by27 rfl rfl rfl rfl O_5 rfl R_526 el_529 ?_)
              clear S; intro a w_531 v_530 A_532 O_533 S
              replace R0 : RepV (.sl gt0) w_531 (Kx K w.heap.size [some b_440, some b_277, v_515.ownBlock, v_530.ownBlock]) v0 x0 := R0.apd A_532 (i := 3) rfl
              replace R_526 : RepV (.sl (.int .i64)) w_531 (Kx K w.heap.size [some b_440, some b_277, v_515.ownBlock, v_530.ownBlock]) v_525 (⟨[j_521], some 1⟩ : Sl (Int)) := R_526.apd A_532 (i := 3) rfl
              replace B_278 : Bx gt1 32 w_531 (Kx K w.heap.size [some b_440, some b_277, v_515.ownBlock, v_530.ownBlock]) b_277 y_480 := B_278.apd W A_532 (i := 3) rfl (j := 1) rfl (by decide)
              replace B_441 : Bx (.arr 8 (.int .i64)) 52 w_531 (Kx K w.heap.size [some b_440, some b_277, v_515.ownBlock, v_530.ownBlock]) b_440 y_450 := B_441.apd W A_532 (i := 3) rfl (j := 0) rfl (by decide)
              replace O_518 : Ow gt1 32 w_531 w.heap.size (Kx K w.heap.size [some b_440, some b_277, v_515.ownBlock, v_530.ownBlock]) v_515 l_514 (capA .none l_514.length) := O_518.apd W A_532 (i := 3) rfl (j := 2) rfl (by decide)
              replace W : Wd w w_531 [some b_440, some b_277, v_515.ownBlock, v_530.ownBlock] := W.apd A_532 (i := 3) rfl
              replace O_533 : Ow (.int .i64) 3 w_531 w.heap.size (Kx K w.heap.size [some b_440, some b_277, v_515.ownBlock, v_530.ownBlock]) v_530 l_529 (capA .none l_529.length) := O_533
              refine wl_pureK (l' := [(4, v_530), (3, v_515), (0, v0), (4, v_4), (5, .int .i64 c_1)]) S tys tys_ok 1 [4, 3, 0, 5] (by kernel_rfl) ?_
              clear S; intro a S
              refine wpList_nil ?_
              refine blk_n ?_
              refine then_n ?_
              refine wp_region_lit ?_
              refine wl_pure (l' := [(22, .int .i64 c_1), (4, v_530), (3, v_515), (0, v0), (4, v_4), (5, .int .i64 c_1)]) S tys tys_ok 1 (by kernel_rfl) ?_
              clear S; intro a S
              obtain ⟨x_534, ex_534, hl_21⟩ := bindS hl_21
              refine w_go S rfl (op_arith S .i64 (c_1 + 1) rfl (.inl rfl) rfl rfl rfl rfl ex_534 ?_)
              clear S; intro a S
              refine wl_pure (l' := [(5, .int .i64 x_534), (23, .int .i64 x_534), (22, .int .i64 c_1), (4, v_530), (3, v_515), (0, v0), (4, v_4), (5, .int .i64 c_1)]) S tys tys_ok 1 (by kernel_rfl) ?_
              clear S; intro a S
              refine wpList_nil ?_
              refine then_n ?_
              exact ⟨x_534, l_529, l_514, ⟨v_530, v_515, S.sub (by exact ⟨rfl, rfl, rfl, rfl, trivial⟩), (W.drop 2), (ckI_some ex_534).2.1, (R0.drop 2), (O_533.drop 2).forget, (O_518.drop 2).forget, hl_21⟩⟩
        · intro hc
          rw [if_neg (Bool.eq_false_iff.1 hc)] at hl_21
          refine wp_exit ?_
          refine then_x ?_
          refine then_x ?_
          refine blk_hit ?_
          refine then_n ?_
          obtain rfl := Option.some.inj hl_21
          exact ⟨v_7, S.sub (by exact ⟨rfl, trivial⟩), (W.lessAt 1), (O_8.lessAt 1)⟩
  clear S W; rintro a w_535 ⟨v_18, S, W, O_19⟩
  refine then_n ?_
  refine wp_seq ?_
  refine wp_region_lit ?_
  refine wl_pure (l' := [(2, v_18), (178, v_18), (3, v_18)]) S tys tys_ok 2 (by kernel_rfl) ?_
  clear S; intro a S
  refine wpList_nil ?_
  refine then_n ?_
  replace S := S.sub (l' := [(2, v_18)]) (by exact ⟨rfl, trivial⟩)
  refine wp_ret ?_
  obtain rfl := Option.some.inj h
  exact b_ret1 S rfl rfl ⟨_, rfl, (O_19.lessO 0 rfl), W.below⟩
theorem cb9 : callB Try.prog 9 = true := by kernel_rfl
def p26_l1 (n : Nat) (x0 : Sl (Int × Int × Bool × Bool × Bool × Bool × Int)) : Nat → (Int) → Option ((Unit) ⊕ ((Int)))
  | 0, _ => .none
  | m + 1, c_1 => (idx x0.xs c_1).bind fun y_10 => if (decide (y_10.1 ≥ 0)) then ((idx x0.xs c_1).bind fun y_16 => (idx x0.xs y_16.1).bind fun y_22 => if (!y_22.2.2.2.2.1) then (some (.inr 0)) else p26_l1 n x0 m y_16.1) else some (.inl ())
def p26 (n : Nat) (x0 : Sl (Int × Int × Bool × Bool × Bool × Bool × Int)) (x1 : Int) : Option ((Int)) :=
  (p26_l1 n x0 n x1).bind fun (y_5 : (Unit) ⊕ ((Int))) =>
  lrK y_5 some fun (s_6 : Unit) =>
  some 1
set_option maxHeartbeats 4000000 in
set_option maxRecDepth 100000 in
/-- plugboard/plugboardlaw19.lit -/
theorem c26 (K : Nat → Prop) (n : Nat) (w : World) (x0 : Sl (Int × Int × Bool × Bool × Bool × Bool × Int)) (v0 : Value) (R0 : RepV (.sl gt1) w K v0 x0) (x1 : Int) (G1 : InR .i64 x1) {r : (Int)} (h : p26 n x0 x1 = some r) :
    Calls Try.prog 26 #[v0, .int .i64 x1] w (Ret1 (.int .i64) w (Kx K w.heap.size []) r) := by
  refine enter (args := [v0, .int .i64 x1]) Try.func26 rfl 22 rfl rfl fun a S => ?_
  have W := Wd.start w
  replace R0 := R0.arg
  unfold p26 at h
  replace S : St 22 a [(0, v0), (1, .int .i64 x1)] := S
  refine wp_seq ?_
  refine wp_region_lit ?_
  refine wl_pure (l' := [(4, .int .i64 0), (0, v0), (1, .int .i64 x1)]) S tys tys_ok 1 (by kernel_rfl) ?_
  clear S; intro a S
  refine wpList_nil ?_
  refine then_n ?_
  replace S := S.sub (l' := [(0, v0), (1, .int .i64 x1)]) (by exact ⟨rfl, rfl, trivial⟩)
  refine wp_seq ?_
  obtain ⟨y_5, ey_5, h⟩ := bindS h
  refine wp_cut_ (fun a_ w_ => ∃ s_6 : Unit, y_5 = .inl s_6 ∧ (St 22 a_ [] ∧ Wd w w_ [])) ?_ ?_
  · refine wp_block ?_
    refine wp_loop_n (fun m_ a_ w_ => ∃ (c_1 : Int) , St 22 a_ [(0, v0), (1, .int .i64 c_1)] ∧ Wd w w_ [] ∧ InR .i64 c_1 ∧ RepV (.sl gt1) w_ (Kx K w.heap.size []) v0 x0 ∧ p26_l1 n x0 m_ c_1 = some y_5) n ?_ ?_
    · skip
      exact ⟨x1, ⟨S.sub (by exact ⟨rfl, rfl, trivial⟩), W, G1, R0, ey_5⟩⟩
    · clear S W; rintro m_7 a w_9 ⟨c_1, S, W, G_2, R0, hl_8⟩
      cases m_7 with
      | zero => exact absurd hl_8 (by simp [p26_l1])
      | succ m_7 =>
        refine ⟨m_7, rfl, ?_⟩
        rw [p26_l1] at hl_8
        refine wp_seq ?_
        refine wp_seq ?_
        refine wp_region_lit ?_
        refine wl_pure (l' := [(6, .int .i64 c_1), (5, v0), (0, v0), (1, .int .i64 c_1)]) S tys tys_ok 2 (by kernel_rfl) ?_
        clear S; intro a S
        obtain ⟨y_10, ey_10, hl_8⟩ := bindS hl_8
        refine w_go S rfl (op_indexAddr S rfl ty24 rfl rfl rfl R0 rfl ey_10 ?_)
        clear S; intro a p_11 R_12 H_13 S
        refine wl_pureK (l' := [(8, .pointer (some (p_11.add (coff gf1 0)))), (0, v0), (1, .int .i64 c_1)]) S tys tys_ok 1 [8, 0, 1] (by kernel_rfl) ?_
        clear S; intro a S
        refine w_go S rfl (op_load (t := (.int .i64)) (x := y_10.1) S rfl ty3 rfl rfl rfl (RepAt.add 0 (RepAt.st (t := gf1) R_12)) ?_)
        clear S; intro a v_14 R_15 S
        obtain ⟨rfl, GR_15⟩ := RepV.int R_15
        refine wl_pure (l' := [(10, .bool (decide (y_10.1 ≥ 0))), (9, .int .i64 y_10.1), (8, .pointer (some (p_11.add (coff gf1 0)))), (0, v0), (1, .int .i64 c_1)]) S tys tys_ok 1 (by kernel_rfl) ?_
        clear S; intro a S
        refine wpList_nil ?_
        refine then_n ?_
        replace S := S.sub (l' := [(10, .bool (decide (y_10.1 ≥ 0))), (0, v0), (1, .int .i64 c_1)]) (by exact ⟨rfl, rfl, rfl, trivial⟩)
        refine wp_cond_split (S.eval (show ev _ _ = some (.bool (decide (y_10.1 ≥ 0))) from rfl)) ?_ ?_
        · intro hc
          rw [if_pos hc] at hl_8
          refine wp_skip ?_
          refine then_n ?_
          replace S := S.sub (l' := [(0, v0), (1, .int .i64 c_1)]) (by exact ⟨rfl, rfl, trivial⟩)
          refine wp_block ?_
          refine wp_seq ?_
          refine wp_region_lit ?_
          refine wl_pure (l' := [(12, .int .i64 c_1), (11, v0), (0, v0), (1, .int .i64 c_1)]) S tys tys_ok 2 (by kernel_rfl) ?_
          clear S; intro a S
          obtain ⟨y_16, ey_16, hl_8⟩ := bindS hl_8
          refine w_go S rfl (op_indexAddr S rfl ty24 rfl rfl rfl R0 rfl ey_16 ?_)
          clear S; intro a p_17 R_18 H_19 S
          refine wl_pureK (l' := [(14, .pointer (some (p_17.add (coff gf1 0)))), (0, v0), (1, .int .i64 c_1)]) S tys tys_ok 1 [14, 0, 1] (by kernel_rfl) ?_
          clear S; intro a S
          refine w_go S rfl (op_load (t := (.int .i64)) (x := y_16.1) S rfl ty3 rfl rfl rfl (RepAt.add 0 (RepAt.st (t := gf1) R_18)) ?_)
          clear S; intro a v_20 R_21 S
          obtain ⟨rfl, GR_21⟩ := RepV.int R_21
          refine wl_pure (l' := [(1, .int .i64 y_16.1), (15, .int .i64 y_16.1), (14, .pointer (some (p_17.add (coff gf1 0)))), (0, v0), (1, .int .i64 c_1)]) S tys tys_ok 1 (by kernel_rfl) ?_
          clear S; intro a S
          refine wpList_nil ?_
          refine then_n ?_
          replace S := S.sub (l' := [(1, .int .i64 y_16.1), (0, v0)]) (by exact ⟨rfl, rfl, trivial⟩)
          refine wp_seq ?_
          refine wp_region_lit ?_
          refine wl_pure (l' := [(17, .int .i64 y_16.1), (16, v0), (1, .int .i64 y_16.1), (0, v0)]) S tys tys_ok 2 (by kernel_rfl) ?_
          clear S; intro a S
          obtain ⟨y_22, ey_22, hl_8⟩ := bindS hl_8
          refine w_go S rfl (op_indexAddr S rfl ty24 rfl rfl rfl R0 rfl ey_22 ?_)
          clear S; intro a p_23 R_24 H_25 S
          refine wl_pureK (l' := [(19, .pointer (some (p_23.add (coff gf1 4)))), (1, .int .i64 y_16.1), (0, v0)]) S tys tys_ok 1 [19, 1, 0] (by kernel_rfl) ?_
          clear S; intro a S
          refine w_go S rfl (op_load (t := .bool) (x := y_22.2.2.2.2.1) S rfl ty4 rfl rfl rfl (RepAt.add 4 (RepAt.st (t := gf1) R_24)) ?_)
          clear S; intro a v_26 R_27 S
          obtain rfl := RepV.bool R_27
          refine wl_pure (l' := [(21, .bool (!y_22.2.2.2.2.1)), (20, .bool y_22.2.2.2.2.1), (19, .pointer (some (p_23.add (coff gf1 4)))), (1, .int .i64 y_16.1), (0, v0)]) S tys tys_ok 1 (by kernel_rfl) ?_
          clear S; intro a S
          refine wpList_nil ?_
          refine then_n ?_
          replace S := S.sub (l' := [(21, .bool (!y_22.2.2.2.2.1)), (1, .int .i64 y_16.1), (0, v0)]) (by exact ⟨rfl, rfl, rfl, trivial⟩)
          refine wp_cond_split (S.eval (show ev _ _ = some (.bool (!y_22.2.2.2.2.1)) from rfl)) ?_ ?_
          · intro hc
            rw [if_pos hc] at hl_8
            refine wp_seq ?_
            refine wp_region_lit ?_
            refine wl_pureK (l' := [(4, .int .i64 0)]) S tys tys_ok 1 [4] (by kernel_rfl) ?_
            clear S; intro a S
            refine wpList_nil ?_
            refine then_n ?_
            refine wp_ret ?_
            refine blk_r ?_
            refine then_r ?_
            refine blk_r ?_
            refine then_r ?_
            refine then_r ?_
            obtain rfl := Option.some.inj hl_8
            obtain rfl := lr_inr h
            exact b_ret1 S rfl rfl ⟨_, rfl, (RepV.mkInt (by decide)), W.below⟩
          · intro hc
            rw [if_neg (Bool.eq_false_iff.1 hc)] at hl_8
            refine wp_skip ?_
            refine blk_n ?_
            refine then_n ?_
            exact ⟨y_16.1, ⟨S.sub (by exact ⟨rfl, rfl, trivial⟩), W, GR_21, R0, hl_8⟩⟩
        · intro hc
          rw [if_neg (Bool.eq_false_iff.1 hc)] at hl_8
          refine wp_exit ?_
          refine then_x ?_
          refine then_x ?_
          refine blk_hit ?_
          refine then_n ?_
          obtain rfl := Option.some.inj hl_8
          exact ⟨_, rfl, ⟨S.sub trivial, W⟩⟩
  clear S W; rintro a w_28 ⟨s_6, rfl, S, W⟩
  replace h := lr_inl h; try dsimp only at h
  refine then_n ?_
  refine wp_seq ?_
  refine wp_region_lit ?_
  refine wl_pure (l' := [(4, .int .i64 1)]) S tys tys_ok 1 (by kernel_rfl) ?_
  clear S; intro a S
  refine wpList_nil ?_
  refine then_n ?_
  refine wp_ret ?_
  obtain rfl := Option.some.inj h
  exact b_ret1 S rfl rfl ⟨_, rfl, (RepV.mkInt (by decide)), W.below⟩
theorem cb26 : callB Try.prog 26 = true := by kernel_rfl
def p13 (n : Nat) (x0 : Int × Int × Bool × Bool × Bool × Bool × Int) : Option ((Int)) :=
  if x0.2.2.2.2.2.1 then (some 2) else if (!x0.2.2.2.2.1) then (some 100) else some x0.2.2.2.2.2.2
set_option maxHeartbeats 4000000 in
set_option maxRecDepth 100000 in
/-- plugboard/plugboardlaw19.own -/
theorem c13 (K : Nat → Prop) (n : Nat) (w : World) (x0 : Int × Int × Bool × Bool × Bool × Bool × Int) (v0 : Value) (R0 : RepV gt1 w K v0 x0) {r : (Int)} (h : p13 n x0 = some r) :
    Calls Try.prog 13 #[v0] w (Ret1 (.int .i64) w (Kx K w.heap.size []) r) := by
  refine enter (args := [v0]) Try.func13 rfl 10 rfl rfl fun a S => ?_
  have W := Wd.start w
  replace R0 := R0.arg
  unfold p13 at h
  replace S : St 10 a [(0, v0)] := S
  refine wp_seq ?_
  refine wp_region_lit ?_
  refine w_go S rfl (op_box S rfl rfl rfl rfl rfl R0 ?_)
  clear S; intro a w_3 b_1 hb_4 B_2 S
  replace R0 := R0.box hb_4
  replace W := W.box hb_4
  refine wl_pure (l' := [(2, .int .i64 0), (1, pB b_1), (0, v0)]) S tys tys_ok 1 (by kernel_rfl) ?_
  clear S; intro a S
  refine wpList_nil ?_
  refine then_n ?_
  replace S := S.sub (l' := [(1, pB b_1)]) (by exact ⟨rfl, trivial⟩)
  refine wp_seq ?_
  refine wp_seq ?_
  refine wp_region_lit ?_
  refine wl_pure (l' := [(3, .pointer (some ((⟨b_1, 0, .none⟩ : Addr).add (coff gf1 5)))), (1, pB b_1)]) S tys tys_ok 1 (by kernel_rfl) ?_
  clear S; intro a S
  refine w_go S rfl (op_load (t := .bool) (x := x0.2.2.2.2.2.1) S rfl ty4 rfl rfl rfl (RepAt.add 5 (RepAt.st (t := gf1) B_2.at_)) ?_)
  clear S; intro a v_5 R_6 S
  obtain rfl := RepV.bool R_6
  refine wpList_nil ?_
  refine then_n ?_
  replace S := S.sub (l' := [(4, .bool x0.2.2.2.2.2.1), (1, pB b_1)]) (by exact ⟨rfl, rfl, trivial⟩)
  refine wp_cond_split (S.eval (show ev _ _ = some (.bool x0.2.2.2.2.2.1) from rfl)) ?_ ?_
  · intro hc
    rw [if_pos hc] at h
    refine wp_seq ?_
    refine wp_region_lit ?_
    refine wl_pure (l' := [(2, .int .i64 2), (4, .bool x0.2.2.2.2.2.1), (1, pB b_1)]) S tys tys_ok 1 (by kernel_rfl) ?_
    clear S; intro a S
    refine wpList_nil ?_
    refine then_n ?_
    replace S := S.sub (l' := [(2, .int .i64 2)]) (by exact ⟨rfl, trivial⟩)
    refine wp_ret ?_
    refine then_r ?_
    obtain rfl := Option.some.inj h
    exact b_ret1 S rfl rfl ⟨_, rfl, (RepV.mkInt (by decide)), W.below⟩
  · intro hc
    rw [if_neg (Bool.eq_false_iff.1 hc)] at h
    refine wp_skip ?_
    refine then_n ?_
    replace S := S.sub (l' := [(1, pB b_1)]) (by exact ⟨rfl, trivial⟩)
    refine wp_seq ?_
    refine wp_seq ?_
    refine wp_region_lit ?_
    refine wl_pure (l' := [(5, .pointer (some ((⟨b_1, 0, .none⟩ : Addr).add (coff gf1 4)))), (1, pB b_1)]) S tys tys_ok 1 (by kernel_rfl) ?_
    clear S; intro a S
    refine w_go S rfl (op_load (t := .bool) (x := x0.2.2.2.2.1) S rfl ty4 rfl rfl rfl (RepAt.add 4 (RepAt.st (t := gf1) B_2.at_)) ?_)
    clear S; intro a v_7 R_8 S
    obtain rfl := RepV.bool R_8
    refine wl_pure (l' := [(7, .bool (!x0.2.2.2.2.1)), (6, .bool x0.2.2.2.2.1), (5, .pointer (some ((⟨b_1, 0, .none⟩ : Addr).add (coff gf1 4)))), (1, pB b_1)]) S tys tys_ok 1 (by kernel_rfl) ?_
    clear S; intro a S
    refine wpList_nil ?_
    refine then_n ?_
    replace S := S.sub (l' := [(7, .bool (!x0.2.2.2.2.1)), (1, pB b_1)]) (by exact ⟨rfl, rfl, trivial⟩)
    refine wp_cond_split (S.eval (show ev _ _ = some (.bool (!x0.2.2.2.2.1)) from rfl)) ?_ ?_
    · intro hc
      rw [if_pos hc] at h
      refine wp_seq ?_
      refine wp_region_lit ?_
      refine wl_pure (l' := [(2, .int .i64 100), (7, .bool (!x0.2.2.2.2.1)), (1, pB b_1)]) S tys tys_ok 1 (by kernel_rfl) ?_
      clear S; intro a S
      refine wpList_nil ?_
      refine then_n ?_
      replace S := S.sub (l' := [(2, .int .i64 100)]) (by exact ⟨rfl, trivial⟩)
      refine wp_ret ?_
      refine then_r ?_
      obtain rfl := Option.some.inj h
      exact b_ret1 S rfl rfl ⟨_, rfl, (RepV.mkInt (by decide)), W.below⟩
    · intro hc
      rw [if_neg (Bool.eq_false_iff.1 hc)] at h
      refine wp_skip ?_
      refine then_n ?_
      replace S := S.sub (l' := [(1, pB b_1)]) (by exact ⟨rfl, trivial⟩)
      refine wp_seq ?_
      refine wp_region_lit ?_
      refine wl_pure (l' := [(8, .pointer (some ((⟨b_1, 0, .none⟩ : Addr).add (coff gf1 6)))), (1, pB b_1)]) S tys tys_ok 1 (by kernel_rfl) ?_
      clear S; intro a S
      refine w_go S rfl (op_load (t := (.int .i64)) (x := x0.2.2.2.2.2.2) S rfl ty3 rfl rfl rfl (RepAt.add 6 (RepAt.st (t := gf1) B_2.at_)) ?_)
      clear S; intro a v_9 R_10 S
      obtain ⟨rfl, GR_10⟩ := RepV.int R_10
      refine wl_pureK (l' := [(2, .int .i64 x0.2.2.2.2.2.2)]) S tys tys_ok 1 [2] (by kernel_rfl) ?_
      clear S; intro a S
      refine wpList_nil ?_
      refine then_n ?_
      refine wp_ret ?_
      obtain rfl := Option.some.inj h
      exact b_ret1 S rfl rfl ⟨_, rfl, (RepV.mkInt GR_10), W.below⟩
theorem cb13 : callB Try.prog 13 = true := by kernel_rfl
theorem cb10 : callB Try.prog 10 = true := by kernel_rfl
def p10_l1 (n : Nat) (x0 : Sl (Int × Int × Bool × Bool × Bool × Bool × Int)) (x1 : Int) (x2 : List (Int)) (rec_ : (Sl (Int × Int × Bool × Bool × Bool × Bool × Int)) → (Int) → (List (Int)) → Option ((Int))) : Nat → (Int) → (Int) → Option ((Int))
  | 0, _, _ => .none
  | m + 1, c_26, c_28 => (if (decide (c_26 < (lenI x0))) = true then (idx x0.xs x1).bind fun y_41 => some (!y_41.2.2.2.1) else some false).bind fun q_40 => if q_40 then ((idx x0.xs c_26).bind fun y_47 => (if (y_47.1 == x1) then ((rec_ x0 c_26 x2).bind fun t_57 => (ckI .i64 (c_28 + t_57)).bind fun x_62 => some x_62) else some c_28).bind fun (j_53 : (Int)) => (ckI .i64 (c_26 + 1)).bind fun x_64 => p10_l1 n x0 x1 x2 rec_ m x_64 j_53) else some c_28
def p10_b (n : Nat) (rec_ : (Sl (Int × Int × Bool × Bool × Bool × Bool × Int)) → (Int) → (List (Int)) → Option ((Int))) (x0 : Sl (Int × Int × Bool × Bool × Bool × Bool × Int)) (x1 : Int) (x2 : List (Int)) : Option ((Int)) :=
  (p26 n x0 x1).bind fun t_5 =>
  (if (t_5 == 0) = false then (idx x2 x1).bind fun y_11 => some (y_11 == 1) else some true).bind fun q_10 =>
  if q_10 then (some 0) else (idx x0.xs x1).bind fun y_14 => (p13 n y_14).bind fun t_20 => (ckI .i64 (x1 + 1)).bind fun x_25 => (p10_l1 n x0 x1 x2 rec_ n x_25 t_20).bind fun (y_34 : (Int)) => some y_34
def p10 : Nat → (Sl (Int × Int × Bool × Bool × Bool × Bool × Int)) → (Int) → (List (Int)) → Option ((Int))
  | 0 => fun _ _ _ => .none
  | n + 1 => p10_b n (p10 n)
set_option maxHeartbeats 4000000 in
set_option maxRecDepth 100000 in
/-- plugboard/plugboardlaw19.takes -/
theorem c10_all (n : Nat) : ∀ (K : Nat → Prop) (w : World) (x0 : Sl (Int × Int × Bool × Bool × Bool × Bool × Int)) (v0 : Value) (R0 : RepV (.sl gt1) w K v0 x0) (x1 : Int) (G1 : InR .i64 x1) (x2 : List (Int)) (v2 : Value) (R2 : RepV (.arr 128 (.int .i64)) w K v2 x2) (r : (Int)) (h : p10 n x0 x1 x2 = some r),
    Calls Try.prog 10 #[v0, .int .i64 x1, v2] w (Ret1 (.int .i64) w (Kx K w.heap.size []) r) := by
  induction n with
  | zero => intro K w x0 v0 R0 x1 G1 x2 v2 R2 r h; cases h
  | succ n IH_ =>
  intro K w x0 v0 R0 x1 G1 x2 v2 R2 r h
  refine enter (args := [v0, .int .i64 x1, v2]) Try.func10 rfl 54 rfl rfl fun a S => ?_
  have W := Wd.start w
  replace R0 := R0.arg
  replace R2 := R2.arg
  change p10_b n (p10 n) x0 x1 x2 = some r at h; unfold p10_b at h
  replace S : St 54 a [(0, v0), (1, .int .i64 x1), (2, v2)] := S
  refine wp_seq ?_
  refine wp_region_lit ?_
  refine w_go S rfl (op_box S rfl rfl rfl rfl rfl R2 ?_)
  clear S; intro a w_3 b_1 hb_4 B_2 S
  replace R0 := R0.box hb_4
  replace R2 := R2.box hb_4
  replace W := W.box hb_4
  refine wl_pure (l' := [(6, .int .i64 0), (5, pB b_1), (0, v0), (1, .int .i64 x1), (2, v2)]) S tys tys_ok 1 (by kernel_rfl) ?_
  clear S; intro a S
  refine wpList_nil ?_
  refine then_n ?_
  replace S := S.sub (l' := [(5, pB b_1), (0, v0), (1, .int .i64 x1)]) (by exact ⟨rfl, rfl, rfl, trivial⟩)
  refine wp_seq ?_
  refine wp_seq ?_
  refine wp_region_lit ?_
  refine wl_pure (l' := [(10, .int .i64 x1), (9, v0), (5, pB b_1), (0, v0), (1, .int .i64 x1)]) S tys tys_ok 2 (by kernel_rfl) ?_
  clear S; intro a S
  obtain ⟨t_5, et_5, h⟩ := bindS h
  refine w_go S rfl (op_call (vs := [v0, .int .i64 x1]) S rfl cb26 rfl rfl rfl (c26 (Kx K w.heap.size [some b_1]) n w_3 x0 _ R0 x1 G1 et_5) ?_)
  rintro _ w_9 ⟨v_6, rfl, R_7, hb_8⟩; refine ⟨_, rfl, ?_⟩
  replace R_7 := RepV.back R_7 W
  clear S; intro a S
  replace R0 := R0.step hb_8
  replace B_2 := B_2.step hb_8
  replace W := W.step hb_8
  obtain ⟨rfl, GR_7⟩ := RepV.int R_7
  refine wl_pureK (l' := [(13, .bool (t_5 == 0)), (5, pB b_1), (0, v0), (1, .int .i64 x1)]) S tys tys_ok 2 [13, 5, 0, 1] (by kernel_rfl) ?_
  clear S; intro a S
  obtain ⟨q_10, eq_10, h⟩ := bindS h
  refine seg 5 (fun a_ w_ => w_9 = w_ ∧ St 54 a_ [(18, .bool q_10), (5, pB b_1), (0, v0), (1, .int .i64 x1)]) ?_ ?_
  · by_cases hc : (t_5 == 0) = false
    · rw [if_pos hc] at eq_10; rw [hc] at S
      refine wl_pure (l' := [(14, .int .i64 x1), (13, .bool false), (5, pB b_1), (0, v0), (1, .int .i64 x1)]) S tys tys_ok 1 (by kernel_rfl) ?_
      clear S; intro a S
      obtain ⟨y_11, ey_11, eq_10⟩ := bindS eq_10
      refine w_go S rfl (op_indexAddr_arr S rfl ty26 rfl rfl rfl B_2.at_ rfl ey_11 ?_)
      clear S; intro a S
      refine w_go S rfl (op_load (t := (.int .i64)) (x := y_11) S rfl ty3 rfl rfl rfl (RepAt.ix B_2.at_ ey_11) ?_)
      clear S; intro a v_12 R_13 S
      obtain ⟨rfl, GR_13⟩ := RepV.int R_13
      refine wl_pureK (l' := [(18, .bool (y_11 == 1)), (5, pB b_1), (0, v0), (1, .int .i64 x1)]) S tys tys_ok 2 [18, 5, 0, 1] (by kernel_rfl) ?_
      clear S; intro a S
      obtain rfl := Option.some.inj eq_10
      exact ⟨rfl, S.sub (by exact ⟨rfl, rfl, rfl, rfl, trivial⟩)⟩
    · rw [if_neg hc] at eq_10; rw [show (t_5 == 0) = true from (by simpa using hc)] at S
      refine wl_pureK (l' := [(18, .bool true), (5, pB b_1), (0, v0), (1, .int .i64 x1)]) S tys tys_ok 5 [18, 5, 0, 1] (by kernel_rfl) ?_
      clear S; intro a S
      obtain rfl := Option.some.inj eq_10
      exact ⟨rfl, S.sub (by exact ⟨rfl, rfl, rfl, rfl, trivial⟩)⟩
  clear S eq_10; rintro a _ ⟨rfl, S⟩
  refine wpList_nil ?_
  refine then_n ?_
  refine wp_cond_split (S.eval (show ev _ _ = some (.bool q_10) from rfl)) ?_ ?_
  · intro hc
    rw [if_pos hc] at h
    refine wp_seq ?_
    refine wp_region_lit ?_
    refine wl_pureK (l' := [(6, .int .i64 0)]) S tys tys_ok 1 [6] (by kernel_rfl) ?_
    clear S; intro a S
    refine wpList_nil ?_
    refine then_n ?_
    refine wp_ret ?_
    refine then_r ?_
    obtain rfl := Option.some.inj h
    exact b_ret1 S rfl rfl ⟨_, rfl, (RepV.mkInt (by decide)), W.below⟩
  · intro hc
    rw [if_neg (Bool.eq_false_iff.1 hc)] at h
    refine wp_skip ?_
    refine then_n ?_
    replace S := S.sub (l' := [(5, pB b_1), (0, v0), (1, .int .i64 x1)]) (by exact ⟨rfl, rfl, rfl, trivial⟩)
    refine wp_seq ?_
    refine wp_region_lit ?_
    refine wl_pure (l' := [(20, .int .i64 x1), (19, v0), (5, pB b_1), (0, v0), (1, .int .i64 x1)]) S tys tys_ok 2 (by kernel_rfl) ?_
    clear S; intro a S
    obtain ⟨y_14, ey_14, h⟩ := bindS h
    refine w_go S rfl (op_indexAddr S rfl ty24 rfl rfl rfl R0 rfl ey_14 ?_)
    clear S; intro a p_15 R_16 H_17 S
    refine w_go S rfl (op_load (t := gt1) (x := y_14) S rfl ty32 rfl rfl rfl R_16 ?_)
    clear S; intro a v_18 R_19 S
    obtain ⟨t_20, et_20, h⟩ := bindS h
    refine w_go S rfl (op_call (vs := [v_18]) S rfl cb13 rfl rfl rfl (c13 (Kx K w.heap.size [some b_1]) n w_9 y_14 _ R_19 et_20) ?_)
    rintro _ w_24 ⟨v_21, rfl, R_22, hb_23⟩; refine ⟨_, rfl, ?_⟩
    replace R_22 := RepV.back R_22 W
    clear S; intro a S
    replace R0 := R0.step hb_23
    replace R_19 := R_19.step hb_23
    replace B_2 := B_2.step hb_23
    replace W := W.step hb_23
    obtain ⟨rfl, GR_22⟩ := RepV.int R_22
    refine wl_pureK (l' := [(7, .int .i64 t_20), (5, pB b_1), (0, v0), (1, .int .i64 x1)]) S tys tys_ok 1 [7, 5, 0, 1] (by kernel_rfl) ?_
    clear S; intro a S
    refine wpList_nil ?_
    refine then_n ?_
    refine wp_seq ?_
    refine wp_seq ?_
    refine wp_region_lit ?_
    refine wl_pure (l' := [(24, .int .i64 x1), (7, .int .i64 t_20), (5, pB b_1), (0, v0), (1, .int .i64 x1)]) S tys tys_ok 1 (by kernel_rfl) ?_
    clear S; intro a S
    obtain ⟨x_25, ex_25, h⟩ := bindS h
    refine w_go S rfl (op_arith S .i64 (x1 + 1) rfl (.inl rfl) rfl rfl rfl rfl ex_25 ?_)
    clear S; intro a S
    refine wl_pure (l' := [(8, .int .i64 x_25), (25, .int .i64 x_25), (24, .int .i64 x1), (7, .int .i64 t_20), (5, pB b_1), (0, v0), (1, .int .i64 x1)]) S tys tys_ok 1 (by kernel_rfl) ?_
    clear S; intro a S
    refine wpList_nil ?_
    refine then_n ?_
    replace S := S.sub (l' := [(8, .int .i64 x_25), (7, .int .i64 t_20), (5, pB b_1), (0, v0), (1, .int .i64 x1)]) (by exact ⟨rfl, rfl, rfl, rfl, rfl, trivial⟩)
    obtain ⟨y_34, ey_34, h⟩ := bindS h
    refine wp_cut_ (fun a_ w_ => St 54 a_ [(7, .int .i64 y_34)] ∧ Wd w w_ [some b_1] ∧ InR .i64 y_34 ∧ Bx (.arr 128 (.int .i64)) 26 w_ (Kx K w.heap.size [some b_1]) b_1 x2) ?_ ?_
    · refine wp_block ?_
      refine wp_loop_n (fun m_ a_ w_ => ∃ (c_26 : Int) (c_28 : Int) , St 54 a_ [(8, .int .i64 c_26), (7, .int .i64 c_28), (5, pB b_1), (0, v0), (1, .int .i64 x1)] ∧ Wd w w_ [some b_1] ∧ InR .i64 c_26 ∧ InR .i64 c_28 ∧ RepV (.sl gt1) w_ (Kx K w.heap.size [some b_1]) v0 x0 ∧ Bx (.arr 128 (.int .i64)) 26 w_ (Kx K w.heap.size [some b_1]) b_1 x2 ∧ p10_l1 n x0 x1 x2 (p10 n) m_ c_26 c_28 = some y_34) n ?_ ?_
      · skip
        exact ⟨x_25, t_20, ⟨S.sub (by exact ⟨rfl, rfl, rfl, rfl, rfl, trivial⟩), W, (ckI_some ex_25).2.1, GR_22, R0, B_2, ey_34⟩⟩
      · clear S W; rintro m_36 a w_38 ⟨c_26, c_28, S, W, G_27, G_29, R0, B_2, hl_37⟩
        cases m_36 with
        | zero => exact absurd hl_37 (by simp [p10_l1])
        | succ m_36 =>
          refine ⟨m_36, rfl, ?_⟩
          rw [p10_l1] at hl_37
          refine wp_seq ?_
          refine wp_seq ?_
          refine wp_region_lit ?_
          refine wl_pure (l' := [(27, v0), (26, .int .i64 c_26), (8, .int .i64 c_26), (7, .int .i64 c_28), (5, pB b_1), (0, v0), (1, .int .i64 x1)]) S tys tys_ok 2 (by kernel_rfl) ?_
          clear S; intro a S
          refine w_go S rfl (op_len (K := _) S rfl ty24 rfl rfl rfl R0 ?_)
          clear S; intro a G_39 S
          refine wl_pureK (l' := [(30, .bool (decide (c_26 < (lenI x0)))), (8, .int .i64 c_26), (7, .int .i64 c_28), (5, pB b_1), (0, v0), (1, .int .i64 x1)]) S tys tys_ok 2 [30, 8, 7, 5, 0, 1] (by kernel_rfl) ?_
          clear S; intro a S
          obtain ⟨q_40, eq_40, hl_37⟩ := bindS hl_37
          refine seg 7 (fun a_ w_ => w_38 = w_ ∧ St 54 a_ [(37, .bool q_40), (8, .int .i64 c_26), (7, .int .i64 c_28), (5, pB b_1), (0, v0), (1, .int .i64 x1)]) ?_ ?_
          · by_cases hc : (decide (c_26 < (lenI x0))) = true
            · rw [if_pos hc] at eq_40; rw [hc] at S
              refine wl_pure (l' := [(32, .int .i64 x1), (31, v0), (30, .bool true), (8, .int .i64 c_26), (7, .int .i64 c_28), (5, pB b_1), (0, v0), (1, .int .i64 x1)]) S tys tys_ok 2 (by kernel_rfl) ?_
              clear S; intro a S
              obtain ⟨y_41, ey_41, eq_40⟩ := bindS eq_40
              refine w_go S rfl (op_indexAddr S rfl ty24 rfl rfl rfl R0 rfl ey_41 ?_)
              clear S; intro a p_42 R_43 H_44 S
              refine wl_pure (l' := [(34, .pointer (some (p_42.add (coff gf1 3)))), (33, .pointer (some p_42)), (32, .int .i64 x1), (31, v0), (30, .bool true), (8, .int .i64 c_26), (7, .int .i64 c_28), (5, pB b_1), (0, v0), (1, .int .i64 x1)]) S tys tys_ok 1 (by kernel_rfl) ?_
              clear S; intro a S
              refine w_go S rfl (op_load (t := .bool) (x := y_41.2.2.2.1) S rfl ty4 rfl rfl rfl (RepAt.add 3 (RepAt.st (t := gf1) R_43)) ?_)
              clear S; intro a v_45 R_46 S
              obtain rfl := RepV.bool R_46
              refine wl_pure (l' := [(37, .bool (!y_41.2.2.2.1)), (36, .bool (!y_41.2.2.2.1)), (35, .bool y_41.2.2.2.1), (34, .pointer (some (p_42.add (coff gf1 3)))), (33, .pointer (some p_42)), (32, .int .i64 x1), (31, v0), (30, .bool true), (8, .int .i64 c_26), (7, .int .i64 c_28), (5, pB b_1), (0, v0), (1, .int .i64 x1)]) S tys tys_ok 2 (by kernel_rfl) ?_
              clear S; intro a S
              obtain rfl := Option.some.inj eq_40
              exact ⟨rfl, S.sub (by exact ⟨rfl, rfl, rfl, rfl, rfl, rfl, trivial⟩)⟩
            · rw [if_neg hc] at eq_40; rw [show (decide (c_26 < (lenI x0))) = false from Bool.eq_false_iff.2 hc] at S
              refine wl_pure (l' := [(37, .bool false), (36, undef), (35, undef), (34, undef), (33, undef), (32, undef), (31, undef), (30, .bool false), (8, .int .i64 c_26), (7, .int .i64 c_28), (5, pB b_1), (0, v0), (1, .int .i64 x1)]) S tys tys_ok 7 (by kernel_rfl) ?_
              clear S; intro a S
              obtain rfl := Option.some.inj eq_40
              exact ⟨rfl, S.sub (by exact ⟨rfl, rfl, rfl, rfl, rfl, rfl, trivial⟩)⟩
          clear S eq_40; rintro a _ ⟨rfl, S⟩
          refine wpList_nil ?_
          refine then_n ?_
          refine wp_cond_split (S.eval (show ev _ _ = some (.bool q_40) from rfl)) ?_ ?_
          · intro hc
            rw [if_pos hc] at hl_37
            refine wp_skip ?_
            refine then_n ?_
            replace S := S.sub (l' := [(8, .int .i64 c_26), (7, .int .i64 c_28), (5, pB b_1), (0, v0), (1, .int .i64 x1)]) (by exact ⟨rfl, rfl, rfl, rfl, rfl, trivial⟩)
            refine wp_seq ?_
            refine wp_block ?_
            refine wp_seq ?_
            refine wp_region_lit ?_
            refine wl_pure (l' := [(41, .int .i64 c_26), (40, v0), (8, .int .i64 c_26), (7, .int .i64 c_28), (5, pB b_1), (0, v0), (1, .int .i64 x1)]) S tys tys_ok 2 (by kernel_rfl) ?_
            clear S; intro a S
            obtain ⟨y_47, ey_47, hl_37⟩ := bindS hl_37
            refine w_go S rfl (op_indexAddr S rfl ty24 rfl rfl rfl R0 rfl ey_47 ?_)
            clear S; intro a p_48 R_49 H_50 S
            refine wl_pureK (l' := [(43, .pointer (some (p_48.add (coff gf1 0)))), (8, .int .i64 c_26), (7, .int .i64 c_28), (5, pB b_1), (0, v0), (1, .int .i64 x1)]) S tys tys_ok 1 [43, 8, 7, 5, 0, 1] (by kernel_rfl) ?_
            clear S; intro a S
            refine w_go S rfl (op_load (t := (.int .i64)) (x := y_47.1) S rfl ty3 rfl rfl rfl (RepAt.add 0 (RepAt.st (t := gf1) R_49)) ?_)
            clear S; intro a v_51 R_52 S
            obtain ⟨rfl, GR_52⟩ := RepV.int R_52
            refine wl_pureK (l' := [(46, .bool (y_47.1 == x1)), (8, .int .i64 c_26), (7, .int .i64 c_28), (5, pB b_1), (0, v0), (1, .int .i64 x1)]) S tys tys_ok 2 [46, 8, 7, 5, 0, 1] (by kernel_rfl) ?_
            clear S; intro a S
            refine wpList_nil ?_
            refine then_n ?_
            obtain ⟨j_53, ej_53, hl_37⟩ := bindS hl_37
            refine wp_cut_ (fun a_ w_ => St 54 a_ [(8, .int .i64 c_26), (7, .int .i64 j_53), (5, pB b_1), (0, v0), (1, .int .i64 x1)] ∧ Wd w w_ [some b_1] ∧ InR .i64 j_53 ∧ RepV (.sl gt1) w_ (Kx K w.heap.size [some b_1]) v0 x0 ∧ Bx (.arr 128 (.int .i64)) 26 w_ (Kx K w.heap.size [some b_1]) b_1 x2) ?_ ?_
            · refine wp_cond_split (S.eval (show ev _ _ = some (.bool (y_47.1 == x1)) from rfl)) ?_ ?_
              · intro hc
                rw [if_pos hc] at ej_53
                refine wp_region_lit ?_
                refine wl_pure (l' := [(49, .int .i64 c_26), (48, v0), (47, .int .i64 c_28), (46, .bool (y_47.1 == x1)), (8, .int .i64 c_26), (7, .int .i64 c_28), (5, pB b_1), (0, v0), (1, .int .i64 x1)]) S tys tys_ok 3 (by kernel_rfl) ?_
                clear S; intro a S
                refine w_go S rfl (op_load (t := (.arr 128 (.int .i64))) (x := x2) S rfl ty26 rfl rfl rfl B_2.at_ ?_)
                clear S; intro a v_55 R_56 S
                obtain ⟨t_57, et_57, ej_53⟩ := bindS ej_53
                refine w_go S rfl (op_call (vs := [v0, .int .i64 c_26, v_55]) S rfl cb10 rfl rfl rfl (IH_ (Kx K w.heap.size [some b_1]) w_38 x0 _ R0 c_26 G_27 x2 _ R_56 _ et_57) ?_)
                rintro _ w_61 ⟨v_58, rfl, R_59, hb_60⟩; refine ⟨_, rfl, ?_⟩
                replace R_59 := RepV.back R_59 W
                clear S; intro a S
                replace R0 := R0.step hb_60
                replace R_56 := R_56.step hb_60
                replace B_2 := B_2.step hb_60
                replace W := W.step hb_60
                obtain ⟨rfl, GR_59⟩ := RepV.int R_59
                obtain ⟨x_62, ex_62, ej_53⟩ := bindS ej_53
                refine w_go S rfl (op_arith S .i64 (c_28 + t_57) rfl (.inl rfl) rfl rfl rfl rfl ex_62 ?_)
                clear S; intro a S
                refine wl_pureK (l' := [(7, .int .i64 x_62), (8, .int .i64 c_26), (7, .int .i64 c_28), (5, pB b_1), (0, v0), (1, .int .i64 x1)]) S tys tys_ok 1 [7, 8, 5, 0, 1] (by kernel_rfl) ?_
                clear S; intro a S
                refine wpList_nil ?_
                refine then_n ?_
                obtain rfl := Option.some.inj ej_53
                exact ⟨S.sub (by exact ⟨rfl, rfl, rfl, rfl, rfl, trivial⟩), W, (ckI_some ex_62).2.1, R0, B_2⟩
              · intro hc
                rw [if_neg (Bool.eq_false_iff.1 hc)] at ej_53
                refine wp_skip ?_
                refine then_n ?_
                obtain rfl := Option.some.inj ej_53
                exact ⟨S.sub (by exact ⟨rfl, rfl, rfl, rfl, rfl, trivial⟩), W, G_29, R0, B_2⟩
            clear S W; rintro a w_63 ⟨S, W, G_54, R0, B_2⟩
            refine blk_n ?_
            refine then_n ?_
            refine wp_region_lit ?_
            refine wl_pure (l' := [(38, .int .i64 c_26), (8, .int .i64 c_26), (7, .int .i64 j_53), (5, pB b_1), (0, v0), (1, .int .i64 x1)]) S tys tys_ok 1 (by kernel_rfl) ?_
            clear S; intro a S
            obtain ⟨x_64, ex_64, hl_37⟩ := bindS hl_37
            refine w_go S rfl (op_arith S .i64 (c_26 + 1) rfl (.inl rfl) rfl rfl rfl rfl ex_64 ?_)
            clear S; intro a S
            refine wl_pure (l' := [(8, .int .i64 x_64), (39, .int .i64 x_64), (38, .int .i64 c_26), (8, .int .i64 c_26), (7, .int .i64 j_53), (5, pB b_1), (0, v0), (1, .int .i64 x1)]) S tys tys_ok 1 (by kernel_rfl) ?_
            clear S; intro a S
            refine wpList_nil ?_
            refine then_n ?_
            exact ⟨x_64, j_53, ⟨S.sub (by exact ⟨rfl, rfl, rfl, rfl, rfl, trivial⟩), W, (ckI_some ex_64).2.1, G_54, R0, B_2, hl_37⟩⟩
          · intro hc
            rw [if_neg (Bool.eq_false_iff.1 hc)] at hl_37
            refine wp_exit ?_
            refine then_x ?_
            refine then_x ?_
            refine blk_hit ?_
            refine then_n ?_
            obtain rfl := Option.some.inj hl_37
            exact ⟨S.sub (by exact ⟨rfl, trivial⟩), W, G_29, B_2⟩
    clear S W; rintro a w_65 ⟨S, W, G_35, B_2⟩
    refine then_n ?_
    refine wp_seq ?_
    refine wp_region_lit ?_
    refine wl_pure (l' := [(6, .int .i64 y_34), (53, .int .i64 y_34), (7, .int .i64 y_34)]) S tys tys_ok 2 (by kernel_rfl) ?_
    clear S; intro a S
    refine wpList_nil ?_
    refine then_n ?_
    replace S := S.sub (l' := [(6, .int .i64 y_34)]) (by exact ⟨rfl, trivial⟩)
    refine wp_ret ?_
    obtain rfl := Option.some.inj h
    exact b_ret1 S rfl rfl ⟨_, rfl, (RepV.mkInt G_35), W.below⟩
theorem c10 (K : Nat → Prop) (n : Nat) (w : World) (x0 : Sl (Int × Int × Bool × Bool × Bool × Bool × Int)) (v0 : Value) (R0 : RepV (.sl gt1) w K v0 x0) (x1 : Int) (G1 : InR .i64 x1) (x2 : List (Int)) (v2 : Value) (R2 : RepV (.arr 128 (.int .i64)) w K v2 x2) {r : (Int)} (h : p10 n x0 x1 x2 = some r) :
    Calls Try.prog 10 #[v0, .int .i64 x1, v2] w (Ret1 (.int .i64) w (Kx K w.heap.size []) r) := c10_all n K w x0 v0 R0 x1 G1 x2 v2 R2 r h
def p11 (n : Nat) (x0 : Sl (Int × Int × Bool × Bool × Bool × Bool × Int)) (x1 : Int) : Option ((Int)) :=
  (idx x0.xs x1).bind fun y_1 =>
  (if (decide (y_1.1 < 0)) = false then (idx x0.xs x1).bind fun y_8 => (idx x0.xs y_8.1).bind fun y_14 => some y_14.2.2.2.1 else some true).bind fun q_7 =>
  if q_7 then (some 500) else some 100
set_option maxHeartbeats 4000000 in
set_option maxRecDepth 100000 in
/-- plugboard/plugboardlaw19.gives -/
theorem c11 (K : Nat → Prop) (n : Nat) (w : World) (x0 : Sl (Int × Int × Bool × Bool × Bool × Bool × Int)) (v0 : Value) (R0 : RepV (.sl gt1) w K v0 x0) (x1 : Int) (G1 : InR .i64 x1) {r : (Int)} (h : p11 n x0 x1 = some r) :
    Calls Try.prog 11 #[v0, .int .i64 x1] w (Ret1 (.int .i64) w (Kx K w.heap.size []) r) := by
  refine enter (args := [v0, .int .i64 x1]) Try.func11 rfl 22 rfl rfl fun a S => ?_
  have W := Wd.start w
  replace R0 := R0.arg
  unfold p11 at h
  replace S : St 22 a [(0, v0), (1, .int .i64 x1)] := S
  refine wp_seq ?_
  refine wp_region_lit ?_
  refine wl_pure (l' := [(4, .int .i64 0), (0, v0), (1, .int .i64 x1)]) S tys tys_ok 1 (by kernel_rfl) ?_
  clear S; intro a S
  refine wpList_nil ?_
  refine then_n ?_
  replace S := S.sub (l' := [(0, v0), (1, .int .i64 x1)]) (by exact ⟨rfl, rfl, trivial⟩)
  refine wp_seq ?_
  refine wp_seq ?_
  refine wp_region_lit ?_
  refine wl_pure (l' := [(6, .int .i64 x1), (5, v0), (0, v0), (1, .int .i64 x1)]) S tys tys_ok 2 (by kernel_rfl) ?_
  clear S; intro a S
  obtain ⟨y_1, ey_1, h⟩ := bindS h
  refine w_go S rfl (op_indexAddr S rfl ty24 rfl rfl rfl R0 rfl ey_1 ?_)
  clear S; intro a p_2 R_3 H_4 S
  refine wl_pureK (l' := [(8, .pointer (some (p_2.add (coff gf1 0)))), (0, v0), (1, .int .i64 x1)]) S tys tys_ok 1 [8, 0, 1] (by kernel_rfl) ?_
  clear S; intro a S
  refine w_go S rfl (op_load (t := (.int .i64)) (x := y_1.1) S rfl ty3 rfl rfl rfl (RepAt.add 0 (RepAt.st (t := gf1) R_3)) ?_)
  clear S; intro a v_5 R_6 S
  obtain ⟨rfl, GR_6⟩ := RepV.int R_6
  refine wl_pureK (l' := [(11, .bool (decide (y_1.1 < 0))), (0, v0), (1, .int .i64 x1)]) S tys tys_ok 2 [11, 0, 1] (by kernel_rfl) ?_
  clear S; intro a S
  obtain ⟨q_7, eq_7, h⟩ := bindS h
  refine seg 10 (fun a_ w_ => w = w_ ∧ St 22 a_ [(21, .bool q_7)]) ?_ ?_
  · by_cases hc : (decide (y_1.1 < 0)) = false
    · rw [if_pos hc] at eq_7; rw [hc] at S
      refine wl_pure (l' := [(14, .int .i64 x1), (13, v0), (12, v0), (11, .bool false), (0, v0), (1, .int .i64 x1)]) S tys tys_ok 3 (by kernel_rfl) ?_
      clear S; intro a S
      obtain ⟨y_8, ey_8, eq_7⟩ := bindS eq_7
      refine w_go S rfl (op_indexAddr S rfl ty24 rfl rfl rfl R0 rfl ey_8 ?_)
      clear S; intro a p_9 R_10 H_11 S
      refine wl_pureK (l' := [(16, .pointer (some (p_9.add (coff gf1 0)))), (12, v0), (11, .bool false)]) S tys tys_ok 1 [16, 12, 11] (by kernel_rfl) ?_
      clear S; intro a S
      refine w_go S rfl (op_load (t := (.int .i64)) (x := y_8.1) S rfl ty3 rfl rfl rfl (RepAt.add 0 (RepAt.st (t := gf1) R_10)) ?_)
      clear S; intro a v_12 R_13 S
      obtain ⟨rfl, GR_13⟩ := RepV.int R_13
      obtain ⟨y_14, ey_14, eq_7⟩ := bindS eq_7
      refine w_go S rfl (op_indexAddr S rfl ty24 rfl rfl rfl R0 rfl ey_14 ?_)
      clear S; intro a p_15 R_16 H_17 S
      refine wl_pureK (l' := [(19, .pointer (some (p_15.add (coff gf1 3)))), (11, .bool false)]) S tys tys_ok 1 [19, 11] (by kernel_rfl) ?_
      clear S; intro a S
      refine w_go S rfl (op_load (t := .bool) (x := y_14.2.2.2.1) S rfl ty4 rfl rfl rfl (RepAt.add 3 (RepAt.st (t := gf1) R_16)) ?_)
      clear S; intro a v_18 R_19 S
      obtain rfl := RepV.bool R_19
      refine wl_pureK (l' := [(21, .bool y_14.2.2.2.1)]) S tys tys_ok 1 [21] (by kernel_rfl) ?_
      clear S; intro a S
      obtain rfl := Option.some.inj eq_7
      exact ⟨rfl, S.sub (by exact ⟨rfl, trivial⟩)⟩
    · rw [if_neg hc] at eq_7; rw [show (decide (y_1.1 < 0)) = true from (by simpa using hc)] at S
      refine wl_pureK (l' := [(21, .bool true)]) S tys tys_ok 10 [21] (by kernel_rfl) ?_
      clear S; intro a S
      obtain rfl := Option.some.inj eq_7
      exact ⟨rfl, S.sub (by exact ⟨rfl, trivial⟩)⟩
  clear S eq_7; rintro a _ ⟨rfl, S⟩
  refine wpList_nil ?_
  refine then_n ?_
  refine wp_cond_split (S.eval (show ev _ _ = some (.bool q_7) from rfl)) ?_ ?_
  · intro hc
    rw [if_pos hc] at h
    refine wp_seq ?_
    refine wp_region_lit ?_
    refine wl_pure (l' := [(4, .int .i64 500), (21, .bool q_7)]) S tys tys_ok 1 (by kernel_rfl) ?_
    clear S; intro a S
    refine wpList_nil ?_
    refine then_n ?_
    replace S := S.sub (l' := [(4, .int .i64 500)]) (by exact ⟨rfl, trivial⟩)
    refine wp_ret ?_
    refine then_r ?_
    obtain rfl := Option.some.inj h
    exact b_ret1 S rfl rfl ⟨_, rfl, (RepV.mkInt (by decide)), W.below⟩
  · intro hc
    rw [if_neg (Bool.eq_false_iff.1 hc)] at h
    refine wp_skip ?_
    refine then_n ?_
    replace S := S.sub (l' := []) trivial
    refine wp_seq ?_
    refine wp_region_lit ?_
    refine wl_pure (l' := [(4, .int .i64 100)]) S tys tys_ok 1 (by kernel_rfl) ?_
    clear S; intro a S
    refine wpList_nil ?_
    refine then_n ?_
    refine wp_ret ?_
    obtain rfl := Option.some.inj h
    exact b_ret1 S rfl rfl ⟨_, rfl, (RepV.mkInt (by decide)), W.below⟩
theorem cb11 : callB Try.prog 11 = true := by kernel_rfl
def p12 (n : Nat) (x0 : Int × Int × Bool × Bool × Bool × Bool × Int) : Option ((Int)) :=
  if x0.2.2.2.2.2.1 then (some 2) else if (!x0.2.2.2.2.1) then (some 100) else some x0.2.2.2.2.2.2
set_option maxHeartbeats 4000000 in
set_option maxRecDepth 100000 in
/-- plugboard/powers.Own -/
theorem c12 (K : Nat → Prop) (n : Nat) (w : World) (x0 : Int × Int × Bool × Bool × Bool × Bool × Int) (v0 : Value) (R0 : RepV gt1 w K v0 x0) {r : (Int)} (h : p12 n x0 = some r) :
    Calls Try.prog 12 #[v0] w (Ret1 (.int .i64) w (Kx K w.heap.size []) r) := by
  refine enter (args := [v0]) Try.func12 rfl 12 rfl rfl fun a S => ?_
  have W := Wd.start w
  replace R0 := R0.arg
  unfold p12 at h
  replace S : St 12 a [(0, v0)] := S
  refine wp_seq ?_
  refine wp_region_lit ?_
  refine w_go S rfl (op_box S rfl rfl rfl rfl rfl R0 ?_)
  clear S; intro a w_3 b_1 hb_4 B_2 S
  replace R0 := R0.box hb_4
  replace W := W.box hb_4
  refine wl_pure (l' := [(2, .int .i64 0), (1, pB b_1), (0, v0)]) S tys tys_ok 1 (by kernel_rfl) ?_
  clear S; intro a S
  refine wpList_nil ?_
  refine then_n ?_
  replace S := S.sub (l' := [(1, pB b_1)]) (by exact ⟨rfl, trivial⟩)
  refine wp_seq ?_
  refine wp_block ?_
  refine wp_seq ?_
  refine wp_region_lit ?_
  refine wl_pure (l' := [(4, .pointer (some ((⟨b_1, 0, .none⟩ : Addr).add (coff gf1 5)))), (1, pB b_1)]) S tys tys_ok 1 (by kernel_rfl) ?_
  clear S; intro a S
  refine w_go S rfl (op_load (t := .bool) (x := x0.2.2.2.2.2.1) S rfl ty4 rfl rfl rfl (RepAt.add 5 (RepAt.st (t := gf1) B_2.at_)) ?_)
  clear S; intro a v_5 R_6 S
  obtain rfl := RepV.bool R_6
  refine wl_pure (l' := [(3, .bool x0.2.2.2.2.2.1), (5, .bool x0.2.2.2.2.2.1), (4, .pointer (some ((⟨b_1, 0, .none⟩ : Addr).add (coff gf1 5)))), (1, pB b_1)]) S tys tys_ok 1 (by kernel_rfl) ?_
  clear S; intro a S
  refine wpList_nil ?_
  refine then_n ?_
  replace S := S.sub (l' := [(3, .bool x0.2.2.2.2.2.1), (1, pB b_1)]) (by exact ⟨rfl, rfl, trivial⟩)
  refine wp_cond_split (S.eval (show ev _ _ = some (.bool x0.2.2.2.2.2.1) from rfl)) ?_ ?_
  · intro hc
    rw [if_pos hc] at h
    refine wp_seq ?_
    refine wp_region_lit ?_
    refine wl_pure (l' := [(2, .int .i64 2), (3, .bool x0.2.2.2.2.2.1), (1, pB b_1)]) S tys tys_ok 1 (by kernel_rfl) ?_
    clear S; intro a S
    refine wpList_nil ?_
    refine then_n ?_
    replace S := S.sub (l' := [(2, .int .i64 2)]) (by exact ⟨rfl, trivial⟩)
    refine wp_ret ?_
    refine blk_r ?_
    refine then_r ?_
    obtain rfl := Option.some.inj h
    exact b_ret1 S rfl rfl ⟨_, rfl, (RepV.mkInt (by decide)), W.below⟩
  · intro hc
    rw [if_neg (Bool.eq_false_iff.1 hc)] at h
    refine wp_seq ?_
    refine wp_region_lit ?_
    refine wl_pure (l' := [(7, .pointer (some ((⟨b_1, 0, .none⟩ : Addr).add (coff gf1 4)))), (3, .bool x0.2.2.2.2.2.1), (1, pB b_1)]) S tys tys_ok 1 (by kernel_rfl) ?_
    clear S; intro a S
    refine w_go S rfl (op_load (t := .bool) (x := x0.2.2.2.2.1) S rfl ty4 rfl rfl rfl (RepAt.add 4 (RepAt.st (t := gf1) B_2.at_)) ?_)
    clear S; intro a v_7 R_8 S
    obtain rfl := RepV.bool R_8
    refine wl_pureK (l' := [(6, .bool (!x0.2.2.2.2.1)), (1, pB b_1)]) S tys tys_ok 2 [6, 1] (by kernel_rfl) ?_
    clear S; intro a S
    refine wpList_nil ?_
    refine then_n ?_
    refine wp_cond_split (S.eval (show ev _ _ = some (.bool (!x0.2.2.2.2.1)) from rfl)) ?_ ?_
    · intro hc
      rw [if_pos hc] at h
      refine wp_seq ?_
      refine wp_region_lit ?_
      refine wl_pure (l' := [(2, .int .i64 100), (6, .bool (!x0.2.2.2.2.1)), (1, pB b_1)]) S tys tys_ok 1 (by kernel_rfl) ?_
      clear S; intro a S
      refine wpList_nil ?_
      refine then_n ?_
      replace S := S.sub (l' := [(2, .int .i64 100)]) (by exact ⟨rfl, trivial⟩)
      refine wp_ret ?_
      refine blk_r ?_
      refine then_r ?_
      obtain rfl := Option.some.inj h
      exact b_ret1 S rfl rfl ⟨_, rfl, (RepV.mkInt (by decide)), W.below⟩
    · intro hc
      rw [if_neg (Bool.eq_false_iff.1 hc)] at h
      refine wp_skip ?_
      refine blk_n ?_
      refine then_n ?_
      replace S := S.sub (l' := [(1, pB b_1)]) (by exact ⟨rfl, trivial⟩)
      refine wp_seq ?_
      refine wp_region_lit ?_
      refine wl_pure (l' := [(10, .pointer (some ((⟨b_1, 0, .none⟩ : Addr).add (coff gf1 6)))), (1, pB b_1)]) S tys tys_ok 1 (by kernel_rfl) ?_
      clear S; intro a S
      refine w_go S rfl (op_load (t := (.int .i64)) (x := x0.2.2.2.2.2.2) S rfl ty3 rfl rfl rfl (RepAt.add 6 (RepAt.st (t := gf1) B_2.at_)) ?_)
      clear S; intro a v_9 R_10 S
      obtain ⟨rfl, GR_10⟩ := RepV.int R_10
      refine wl_pureK (l' := [(2, .int .i64 x0.2.2.2.2.2.2)]) S tys tys_ok 1 [2] (by kernel_rfl) ?_
      clear S; intro a S
      refine wpList_nil ?_
      refine then_n ?_
      refine wp_ret ?_
      obtain rfl := Option.some.inj h
      exact b_ret1 S rfl rfl ⟨_, rfl, (RepV.mkInt GR_10), W.below⟩
theorem cb12 : callB Try.prog 12 = true := by kernel_rfl
def p36 (n : Nat) (x0 : Int × Int × Bool × Bool × Bool × Bool × Int) (y0 : Int × Int × Bool × Bool × Bool × Bool × Int) : Option ((Bool)) :=
  (if (x0.1 == y0.1) = true then some (x0.2.1 == y0.2.1) else some false).bind fun q_9 =>
  some q_9
set_option maxHeartbeats 4000000 in
set_option maxRecDepth 100000 in
/-- plugboard/powers.valid$1 -/
theorem c36 (K : Nat → Prop) (n : Nat) (w : World) (x0 : Int × Int × Bool × Bool × Bool × Bool × Int) (v0 : Value) (R0 : RepV gt1 w K v0 x0) (q0 : Addr) (y0 : Int × Int × Bool × Bool × Bool × Bool × Int) (Q0 : Br gt1 w K q0 y0) {r : (Bool)} (h : p36 n x0 y0 = some r) :
    Calls Try.prog 36 #[v0, .pointer (some q0)] w (Ret1 .bool w (Kx K w.heap.size []) r) := by
  refine enter (args := [v0, .pointer (some q0)]) Try.func36 rfl 16 rfl rfl fun a S => ?_
  have W := Wd.start w
  replace R0 := R0.arg
  unfold p36 at h
  replace S : St 16 a [(0, v0), (1, .pointer (some q0))] := S
  refine wp_seq ?_
  refine wp_region_lit ?_
  refine w_go S rfl (op_box S rfl rfl rfl rfl rfl R0 ?_)
  clear S; intro a w_3 b_1 hb_4 B_2 S
  replace R0 := R0.box hb_4
  replace W := W.box hb_4
  refine wl_pure (l' := [(3, .bool false), (2, pB b_1), (0, v0), (1, .pointer (some q0))]) S tys tys_ok 1 (by kernel_rfl) ?_
  clear S; intro a S
  refine wpList_nil ?_
  refine then_n ?_
  replace S := S.sub (l' := [(2, pB b_1), (1, .pointer (some q0))]) (by exact ⟨rfl, rfl, trivial⟩)
  refine wp_seq ?_
  refine wp_region_lit ?_
  refine wl_pure (l' := [(4, .pointer (some ((⟨b_1, 0, .none⟩ : Addr).add (coff gf1 0)))), (2, pB b_1), (1, .pointer (some q0))]) S tys tys_ok 1 (by kernel_rfl) ?_
  clear S; intro a S
  refine w_go S rfl (op_load (t := (.int .i64)) (x := x0.1) S rfl ty3 rfl rfl rfl (RepAt.add 0 (RepAt.st (t := gf1) B_2.at_)) ?_)
  clear S; intro a v_5 R_6 S
  obtain ⟨rfl, GR_6⟩ := RepV.int R_6
  refine wl_pure (l' := [(6, .pointer (some (q0.add (coff gf1 0)))), (5, .int .i64 x0.1), (4, .pointer (some ((⟨b_1, 0, .none⟩ : Addr).add (coff gf1 0)))), (2, pB b_1), (1, .pointer (some q0))]) S tys tys_ok 1 (by kernel_rfl) ?_
  clear S; intro a S
  refine w_go S rfl (op_load (t := (.int .i64)) (x := y0.1) S rfl ty3 rfl rfl rfl (RepAt.add 0 (RepAt.st (t := gf1) (Br.now Q0 W))) ?_)
  clear S; intro a v_7 R_8 S
  obtain ⟨rfl, GR_8⟩ := RepV.int R_8
  refine wl_pureK (l' := [(9, .bool (x0.1 == y0.1)), (2, pB b_1), (1, .pointer (some q0))]) S tys tys_ok 2 [9, 2, 1] (by kernel_rfl) ?_
  clear S; intro a S
  obtain ⟨q_9, eq_9, h⟩ := bindS h
  refine seg 6 (fun a_ w_ => w_3 = w_ ∧ St 16 a_ [(15, .bool q_9)]) ?_ ?_
  · by_cases hc : (x0.1 == y0.1) = true
    · rw [if_pos hc] at eq_9; rw [hc] at S
      refine wl_pure (l' := [(10, .pointer (some ((⟨b_1, 0, .none⟩ : Addr).add (coff gf1 1)))), (9, .bool true), (2, pB b_1), (1, .pointer (some q0))]) S tys tys_ok 1 (by kernel_rfl) ?_
      clear S; intro a S
      refine w_go S rfl (op_load (t := (.int .u8)) (x := x0.2.1) S rfl ty5 rfl rfl rfl (RepAt.add 1 (RepAt.st (t := gf1) B_2.at_)) ?_)
      clear S; intro a v_10 R_11 S
      obtain ⟨rfl, GR_11⟩ := RepV.int R_11
      refine wl_pureK (l' := [(12, .pointer (some (q0.add (coff gf1 1)))), (11, .int .u8 x0.2.1), (9, .bool true)]) S tys tys_ok 1 [12, 11, 9] (by kernel_rfl) ?_
      clear S; intro a S
      refine w_go S rfl (op_load (t := (.int .u8)) (x := y0.2.1) S rfl ty5 rfl rfl rfl (RepAt.add 1 (RepAt.st (t := gf1) (Br.now Q0 W))) ?_)
      clear S; intro a v_12 R_13 S
      obtain ⟨rfl, GR_13⟩ := RepV.int R_13
      refine wl_pureK (l' := [(15, .bool (x0.2.1 == y0.2.1))]) S tys tys_ok 2 [15] (by kernel_rfl) ?_
      clear S; intro a S
      obtain rfl := Option.some.inj eq_9
      exact ⟨rfl, S.sub (by exact ⟨rfl, trivial⟩)⟩
    · rw [if_neg hc] at eq_9; rw [show (x0.1 == y0.1) = false from Bool.eq_false_iff.2 hc] at S
      refine wl_pureK (l' := [(15, .bool false)]) S tys tys_ok 6 [15] (by kernel_rfl) ?_
      clear S; intro a S
      obtain rfl := Option.some.inj eq_9
      exact ⟨rfl, S.sub (by exact ⟨rfl, trivial⟩)⟩
  clear S eq_9; rintro a _ ⟨rfl, S⟩
  refine wl_pure (l' := [(3, .bool q_9), (15, .bool q_9)]) S tys tys_ok 1 (by kernel_rfl) ?_
  clear S; intro a S
  refine wpList_nil ?_
  refine then_n ?_
  replace S := S.sub (l' := [(3, .bool q_9)]) (by exact ⟨rfl, trivial⟩)
  refine wp_ret ?_
  obtain rfl := Option.some.inj h
  exact b_ret1 S rfl rfl ⟨_, rfl, RepV.mkBool, W.below⟩
theorem cb36 : callB Try.prog 36 = true := by kernel_rfl
def p37_l1 (n : Nat) (Be : Type) (y0 : Sl (Int × Int × Bool × Bool × Bool × Bool × Int)) (f : Be → ((Int)) → Option (Bool × Be)) : Nat → (Int) → (Be) → Option (((Int) × (Be)) ⊕ (Be))
  | 0, _, _ => .none
  | m + 1, c_15, c_16 => if (c_15 != (-1)) then ((f c_16 c_15).bind fun t_30 => if (!t_30.1) then (some (.inr t_30.2)) else (idx y0.xs c_15).bind fun y_39 => p37_l1 n Be y0 f m y_39.1 t_30.2) else some (.inl (c_15, c_16))
def p37 (n : Nat) (y0 : Sl (Int × Int × Bool × Bool × Bool × Bool × Int)) (y1 : Int) (Be : Type) (f : Be → ((Int)) → Option (Bool × Be)) (s0 : Be) : Option Be :=
  (idx y0.xs y1).bind fun y_5 =>
  (p37_l1 n Be y0 f n y_5.1 s0).bind fun (y_21 : ((Int) × (Be)) ⊕ (Be)) =>
  lrK y_21 some fun (s_22 : (Int) × (Be)) =>
  some s_22.2
set_option maxHeartbeats 4000000 in
set_option maxRecDepth 100000 in
/-- plugboard/powers.above$1 -/
theorem c37 (K : Nat → Prop) (n : Nat) (w wA : World) (LO : List (Option Nat)) (b1 : Nat) (p0 : Addr) (y0 : Sl (Int × Int × Bool × Bool × Bool × Bool × Int)) (Q0 : Pr (.sl gt1) wA (Kx K w.heap.size (some b1 :: LO)) p0 y0) (y1 : Int) (B1 : Bx (.int .i64) 3 wA (Kx K w.heap.size (some b1 :: LO)) b1 y1) (Be : Type) (f : Be → ((Int)) → Option (Bool × Be)) (s0 : Be) (l : Nat) (Inv : Be → List (Option Nat) → World → Prop) (W : Wd w wA (some b1 :: LO)) (J_ : JI Inv [some b1] wA.heap.size LO wA s0)
    (hY : ∀ (b_ : Be) (LO_ : List (Option Nat)) (A_ : World) (x_ : (Int)), Wd w A_ (some b1 :: LO_) → InR .i64 x_ → ∀ r_, f b_ x_ = some r_ → Inv b_ LO_ A_ → YieldAt Fence.wide 0 Try.prog l [.int .i64 x_].toArray A_ fun e_ B_ => ∃ LO2_, e_ = .returned (.bool r_.1) ∧ Inv r_.2 LO2_ B_ ∧ Yst w.heap.size A_ LO_ B_ LO2_)
    {r : Be} (h : p37 n y0 y1 Be f s0 = some r) :
    Calls Try.prog 37 #[.func (.yield l) #[] #[], .pointer (some p0), pB b1] wA (fun e_ w_ => (∃ v_, e_ = .returned v_) ∧ ∃ LO_, Inv r LO_ w_) := by
  refine R.enter (args := [.func (.yield l) #[] #[], .pointer (some p0), pB b1]) Try.func37 rfl 20 rfl rfl (fun _ h_ => by obtain ⟨⟨_, q_⟩, _⟩ := h_; cases q_) fun a S => ?_
  unfold p37 at h
  replace S : St 20 a [(0, .func (.yield l) #[] #[]), (1, .pointer (some p0)), (2, pB b1)] := S
  refine R.wp_seq ?_
  refine R.wp_region_lit ?_
  refine R.w_go S rfl (op_load (t := (.sl gt1)) (x := y0) S rfl ty24 rfl rfl rfl Q0.1 ?_)
  clear S; intro a v_1 R_2 S
  refine R.w_go S rfl (op_load (t := (.int .i64)) (x := y1) S rfl ty3 rfl rfl rfl B1.at_ ?_)
  clear S; intro a v_3 R_4 S
  obtain ⟨rfl, GR_4⟩ := RepV.int R_4
  obtain ⟨y_5, ey_5, h⟩ := bindS h
  refine R.w_go S rfl (op_indexAddr S rfl ty24 rfl rfl rfl R_2 rfl ey_5 ?_)
  clear S; intro a p_6 R_7 H_8 S
  refine R.wl_pureK (l' := [(7, .pointer (some (p_6.add (coff gf1 0)))), (0, .func (.yield l) #[] #[]), (1, .pointer (some p0)), (2, pB b1)]) S tys tys_ok 1 [7, 0, 1, 2] (by kernel_rfl) ?_
  clear S; intro a S
  refine R.w_go S rfl (op_load (t := (.int .i64)) (x := y_5.1) S rfl ty3 rfl rfl rfl (RepAt.add 0 (RepAt.st (t := gf1) R_7)) ?_)
  clear S; intro a v_9 R_10 S
  obtain ⟨rfl, GR_10⟩ := RepV.int R_10
  refine R.w_go S rfl (op_store (t' := (.int .i64)) S rfl rfl ty3 rfl rfl rfl B1 (by simp) Ln.whole ((RepV.mkInt GR_10) : RepV (.int .i64) wA (Kx K w.heap.size (some b1 :: LO)) _ y_5.1) ?_)
  intro w_11 hw_12 B_
  replace Q0 := Q0.wrote hw_12 (by simp)
  replace J_ := J_.wrote hw_12 (by simp)
  replace W := W.wrote hw_12 (by simp)
  replace B1 : Bx (.int .i64) 3 w_11 (Kx K w.heap.size (some b1 :: LO)) b1 y_5.1 := B_; clear B_
  refine R.wpList_nil ?_
  refine then_n ?_
  replace S := S.sub (l' := [(0, .func (.yield l) #[] #[]), (1, .pointer (some p0)), (2, pB b1)]) (by exact ⟨rfl, rfl, rfl, trivial⟩)
  obtain ⟨y_21, ey_21, h⟩ := bindS h
  refine R.wp_cut_ (fun a_ w_ => ∃ s_22 : (Int) × (Be), y_21 = .inl s_22 ∧ (∃ (LO_20 : List (Option Nat)), St 20 a_ [] ∧ Wd w w_ (some b1 :: LO_20) ∧ Bx (.int .i64) 3 w_ (Kx K w.heap.size (some b1 :: LO_20)) b1 s_22.1 ∧ JI Inv [some b1] wA.heap.size LO_20 w_ s_22.2)) ?_ ?_
  · refine R.wp_block ?_
    refine R.wp_loop_n (fun m_ a_ w_ => ∃ (c_15 : Int) (c_16 : Be) , ∃ (LO_14 : List (Option Nat)), St 20 a_ [(0, .func (.yield l) #[] #[]), (1, .pointer (some p0)), (2, pB b1)] ∧ Wd w w_ (some b1 :: LO_14) ∧ Pr (.sl gt1) w_ (Kx K w.heap.size (some b1 :: LO_14)) p0 y0 ∧ Bx (.int .i64) 3 w_ (Kx K w.heap.size (some b1 :: LO_14)) b1 c_15 ∧ JI Inv [some b1] wA.heap.size LO_14 w_ c_16 ∧ p37_l1 n Be y0 f m_ c_15 c_16 = some y_21) n ?_ ?_
    · skip
      exact ⟨y_5.1, s0, ⟨LO, S.sub (by exact ⟨rfl, rfl, rfl, trivial⟩), W, Q0, B1, J_, ey_21⟩⟩
    · clear S W; rintro m_23 a w_25 ⟨c_15, c_16, LO_14, S, W, Q0, B1, J_, hl_24⟩
      cases m_23 with
      | zero => exact absurd hl_24 (by simp [p37_l1])
      | succ m_23 =>
        refine ⟨m_23, rfl, ?_⟩
        rw [p37_l1] at hl_24
        refine R.wp_seq ?_
        refine R.wp_seq ?_
        refine R.wp_region_lit ?_
        refine R.w_go S rfl (op_load (t := (.int .i64)) (x := c_15) S rfl ty3 rfl rfl rfl B1.at_ ?_)
        clear S; intro a v_26 R_27 S
        obtain ⟨rfl, GR_27⟩ := RepV.int R_27
        refine R.wl_pure (l' := [(10, .bool (c_15 != (-1))), (9, .int .i64 c_15), (0, .func (.yield l) #[] #[]), (1, .pointer (some p0)), (2, pB b1)]) S tys tys_ok 1 (by kernel_rfl) ?_
        clear S; intro a S
        refine R.wpList_nil ?_
        refine then_n ?_
        replace S := S.sub (l' := [(10, .bool (c_15 != (-1))), (0, .func (.yield l) #[] #[]), (1, .pointer (some p0)), (2, pB b1)]) (by exact ⟨rfl, rfl, rfl, rfl, trivial⟩)
        refine R.wp_cond_split (S.eval (show ev _ _ = some (.bool (c_15 != (-1))) from rfl)) ?_ ?_
        · intro hc
          rw [if_pos hc] at hl_24
          refine R.wp_skip ?_
          refine then_n ?_
          replace S := S.sub (l' := [(0, .func (.yield l) #[] #[]), (1, .pointer (some p0)), (2, pB b1)]) (by exact ⟨rfl, rfl, rfl, trivial⟩)
          refine R.wp_seq ?_
          refine R.wp_block ?_
          refine R.wp_seq ?_
          refine R.wp_region_lit ?_
          refine R.wl_pure (l' := [(16, .func (.yield l) #[] #[]), (0, .func (.yield l) #[] #[]), (1, .pointer (some p0)), (2, pB b1)]) S tys tys_ok 1 (by kernel_rfl) ?_
          clear S; intro a S
          refine R.w_go S rfl (op_load (t := (.int .i64)) (x := c_15) S rfl ty3 rfl rfl rfl B1.at_ ?_)
          clear S; intro a v_28 R_29 S
          obtain ⟨rfl, GR_29⟩ := RepV.int R_29
          obtain ⟨t_30, et_30, hl_24⟩ := bindS hl_24
          refine R.w_yield (vs := [.int .i64 c_15]) S rfl rfl rfl rfl rfl rfl (hY _ LO_14 w_25 c_15 W GR_29 _ et_30 J_.inv) ?_
          rintro _ w_31 ⟨LO_32, rfl, hJ_33, Y_34⟩; refine ⟨_, rfl, ?_⟩; clear S; intro a S
          replace Q0 : Pr (.sl gt1) w_31 (Kx K w.heap.size (some b1 :: LO_32)) p0 y0 := Pr.yst [some b1] Q0 Y_34
          replace B1 : Bx (.int .i64) 3 w_31 (Kx K w.heap.size (some b1 :: LO_32)) b1 c_15 := Bx.yst [some b1] B1 Y_34 W (by simp)
          replace J_ : JI Inv [some b1] wA.heap.size LO_32 w_31 t_30.2 := ⟨J_.ab, hJ_33, Nat.le_trans J_.hn Y_34.size⟩
          replace W : Wd w w_31 (some b1 :: LO_32) := Wd.yst [some b1] W Y_34
          refine R.wl_pureK (l' := [(19, .bool (!t_30.1)), (0, .func (.yield l) #[] #[]), (1, .pointer (some p0)), (2, pB b1)]) S tys tys_ok 1 [19, 0, 1, 2] (by kernel_rfl) ?_
          clear S; intro a S
          refine R.wpList_nil ?_
          refine then_n ?_
          refine R.wp_cond_split (S.eval (show ev _ _ = some (.bool (!t_30.1)) from rfl)) ?_ ?_
          · intro hc
            rw [if_pos hc] at hl_24
            refine R.wp_ret ?_
            refine blk_r ?_
            refine then_r ?_
            refine then_r ?_
            refine blk_r ?_
            refine then_r ?_
            refine R.leave0 S ?_ (by simp)
            clear S; intro a S
            obtain rfl := Option.some.inj hl_24
            obtain rfl := lr_inr h
            exact b_ret0 S rfl fun _ => ⟨⟨_, rfl⟩, _, J_.inv⟩
          · intro hc
            rw [if_neg (Bool.eq_false_iff.1 hc)] at hl_24
            refine R.wp_skip ?_
            refine blk_n ?_
            refine then_n ?_
            replace S := S.sub (l' := [(0, .func (.yield l) #[] #[]), (1, .pointer (some p0)), (2, pB b1)]) (by exact ⟨rfl, rfl, rfl, trivial⟩)
            refine R.wp_region_lit ?_
            refine R.w_go S rfl (op_load (t := (.sl gt1)) (x := y0) S rfl ty24 rfl rfl rfl Q0.1 ?_)
            clear S; intro a v_35 R_36 S
            refine R.w_go S rfl (op_load (t := (.int .i64)) (x := c_15) S rfl ty3 rfl rfl rfl B1.at_ ?_)
            clear S; intro a v_37 R_38 S
            obtain ⟨rfl, GR_38⟩ := RepV.int R_38
            obtain ⟨y_39, ey_39, hl_24⟩ := bindS hl_24
            refine R.w_go S rfl (op_indexAddr S rfl ty24 rfl rfl rfl R_36 rfl ey_39 ?_)
            clear S; intro a p_40 R_41 H_42 S
            refine R.wl_pureK (l' := [(14, .pointer (some (p_40.add (coff gf1 0)))), (0, .func (.yield l) #[] #[]), (1, .pointer (some p0)), (2, pB b1)]) S tys tys_ok 1 [14, 0, 1, 2] (by kernel_rfl) ?_
            clear S; intro a S
            refine R.w_go S rfl (op_load (t := (.int .i64)) (x := y_39.1) S rfl ty3 rfl rfl rfl (RepAt.add 0 (RepAt.st (t := gf1) R_41)) ?_)
            clear S; intro a v_43 R_44 S
            obtain ⟨rfl, GR_44⟩ := RepV.int R_44
            refine R.w_go S rfl (op_store (t' := (.int .i64)) S rfl rfl ty3 rfl rfl rfl B1 (by simp) Ln.whole ((RepV.mkInt GR_44) : RepV (.int .i64) w_31 (Kx K w.heap.size (some b1 :: LO_32)) _ y_39.1) ?_)
            intro w_45 hw_46 B_
            replace Q0 := Q0.wrote hw_46 (by simp)
            replace J_ := J_.wrote hw_46 (by simp)
            replace W := W.wrote hw_46 (by simp)
            replace B1 : Bx (.int .i64) 3 w_45 (Kx K w.heap.size (some b1 :: LO_32)) b1 y_39.1 := B_; clear B_
            refine R.wpList_nil ?_
            refine then_n ?_
            exact ⟨y_39.1, t_30.2, ⟨LO_32, S.sub (by exact ⟨rfl, rfl, rfl, trivial⟩), W, Q0, B1, J_, hl_24⟩⟩
        · intro hc
          rw [if_neg (Bool.eq_false_iff.1 hc)] at hl_24
          refine R.wp_exit ?_
          refine then_x ?_
          refine then_x ?_
          refine blk_hit ?_
          refine then_n ?_
          obtain rfl := Option.some.inj hl_24
          exact ⟨_, rfl, ⟨LO_14, S.sub trivial, W, B1, J_⟩⟩
  clear S W; rintro a w_47 ⟨s_22, rfl, LO_20, S, W, B1, J_⟩
  replace h := lr_inl h; try dsimp only at h
  refine R.leave0 S ?_ (by simp)
  clear S; intro a S
  obtain rfl := Option.some.inj h
  exact b_ret0 S rfl fun _ => ⟨⟨_, rfl⟩, _, J_.inv⟩
theorem cb37 : callB Try.prog 37 = true := by kernel_rfl
def p32 (n : Nat) (x0 : Sl (Int × Int × Bool × Bool × Bool × Bool × Int)) (x1 : Int) : Option ((Sl (Int × Int × Bool × Bool × Bool × Bool × Int)) × (Int)) :=
  some (x0, x1)
set_option maxHeartbeats 4000000 in
set_option maxRecDepth 100000 in
/-- plugboard/powers.above -/
theorem c32 (K : Nat → Prop) (n : Nat) (w : World) (x0 : Sl (Int × Int × Bool × Bool × Bool × Bool × Int)) (v0 : Value) (R0 : RepV (.sl gt1) w K v0 x0) (x1 : Int) (G1 : InR .i64 x1) {r : (Sl (Int × Int × Bool × Bool × Bool × Bool × Int)) × (Int)} (h : p32 n x0 x1 = some r) :
    Calls Try.prog 32 #[v0, .int .i64 x1] w (fun e_ w_ => ∃ (p0_ : Addr) (b1_ : Nat), e_ = .returned (.func (.func 37) #[] #[.pointer (some p0_), .pointer (some ⟨b1_, 0, .none⟩)]) ∧ Pr (.sl gt1) w_ (Kx K w.heap.size [some b1_]) p0_ r.1 ∧ Bx (.int .i64) 3 w_ (Kx K w.heap.size [some b1_]) b1_ r.2 ∧ NewB w w_ b1_) := by
  refine enter (args := [v0, .int .i64 x1]) Try.func32 rfl 6 rfl rfl fun a S => ?_
  have W := Wd.start w
  replace R0 := R0.arg
  unfold p32 at h
  replace S : St 6 a [(0, v0), (1, .int .i64 x1)] := S
  refine wp_seq ?_
  refine wp_region_lit ?_
  refine w_go S rfl (op_box S rfl rfl rfl rfl rfl R0 ?_)
  clear S; intro a w_3 b_1 hb_4 B_2 S
  replace R0 := R0.box hb_4
  replace W := W.box hb_4
  refine w_go S rfl (op_box S rfl rfl rfl rfl rfl ((RepV.mkInt G1) : RepV (.int .i64) w_3 (Kx K w.heap.size [some b_1]) _ _) ?_)
  clear S; intro a w_7 b_5 hb_8 B_6 S
  replace R0 := R0.box hb_8
  replace B_2 := B_2.box hb_8
  replace W := W.box hb_8
  refine wl_pureK (l' := [(3, pB b_5), (2, pB b_1)]) S tys tys_ok 1 [3, 2] (by kernel_rfl) ?_
  clear S; intro a S
  refine wpList_nil ?_
  refine then_n ?_
  refine wp_seq ?_
  refine wp_region_lit ?_
  refine w_go S rfl (op_mkfn (vs := []) (us := [pB b_1, pB b_5]) S rfl rfl rfl rfl rfl ?_)
  clear S; intro a S
  refine wl_pureK (l' := [(4, .func (.func 37) #[] #[pB b_1, pB b_5])]) S tys tys_ok 1 [4] (by kernel_rfl) ?_
  clear S; intro a S
  refine wpList_nil ?_
  refine then_n ?_
  refine wp_ret ?_
  have Q_9 : Pr (.sl gt1) w_7 (Kx K w.heap.size [some b_5]) (⟨b_1, 0, .none⟩ : Addr) x0 := Bx.pr B_2 W rfl 1 rfl
  replace B_6 : Bx (.int .i64) 3 w_7 (Kx K w.heap.size [some b_5]) b_5 x1 := B_6.lessAt 1
  replace W : Wd w w_7 [some b_5] := W.lessAt 1
  obtain rfl := Option.some.inj h
  exact b_ret1 S rfl rfl ⟨(⟨b_1, 0, .none⟩ : Addr), b_5, rfl, Q_9.lessO 0 rfl, B_6.lessO 0 rfl, W.newB 0 rfl⟩
theorem cb32 : callB Try.prog 32 = true := by kernel_rfl

end Go.Proofs.Ytnelgpgmggcdcaa
